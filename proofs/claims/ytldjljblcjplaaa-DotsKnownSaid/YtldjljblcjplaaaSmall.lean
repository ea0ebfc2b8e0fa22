/- What the functions return for paths made of short names; the law's small functions. -/
import Derived.Test.YtldjljblcjplaaaMadeAny
import Derived.Test.YtldjljblcjplaaaLawPaths
import Derived.Test.YtldjljblcjplaaaLawBase
namespace Go.Proofs.Ytldjljblcjplaaa.Dots
section
variable {k m : List Bs} {op : Bool} {x : Bs}
theorem body_short : ∀ {k : List Bs}, (∀ s ∈ k, s.length ≤ 3) → (body k).length ≤ 4 * k.length
  | [], _ => by simp [body]
  | a :: t, h => by
    have h1 := h a (by simp)
    have h2 := body_short (k := t) fun s hs => h s (by simp [hs])
    rw [body_cons]
    simp
    omega
theorem built_le (k : List Bs) (op : Bool) : (built k op).length ≤ (body k).length + 1 := by
  unfold built
  split <;> simp
theorem built_empty (op op' : Bool) : built [] op = built [] op' := by simp [built_nil]
theorem all_names (hk : Names k) : k.all name = true := List.all_eq_true.2 hk
theorem make_names (hk : Names k) (h : (built k op).length ≤ 128) : make k op = (built k op, 0) := by
  have e : built k (op && !(k == [])) = built k op := by
    cases k
    · exact built_empty _ _
    · simp
  unfold make limited
  rw [all_names hk, if_pos rfl, e, if_pos h]
theorem join_names (hk : Names k) (hx : name x = true) (h : (built (k ++ [x]) false).length ≤ 128) : join (built k false) x = (built (k ++ [x]) false, 0) := by
  have hne : k ++ [x] ≠ [] := by simp
  rw [built_false hne] at h ⊢
  have hb : body (k ++ [x]) = body k ++ 47 :: x := by rw [body_append]; simp [body]
  have hd : directory (built k false) = true := by
    rw [directory_built hk]
    have : (built k false).length ≤ 128 := by
      rcases Classical.em (k = []) with rfl | hn
      · decide
      · rw [built_false hn]; rw [hb] at h; simp at h; omega
    simp [this]
  have e : (if built k false = [47] then [] else built k false) ++ 47 :: x = body (k ++ [x]) := by
    rw [hb]
    congr 1
    rcases Classical.em (k = []) with rfl | hn
    · rfl
    · rw [if_neg (fun h => hn ((built_eq_root hk false).1 h)), built_false hn]
  unfold join limited
  rw [hd, hx, e, Bool.and_self, if_pos rfl, if_pos h]
theorem parent_names (hk : Names k) (hx : name x = true) (h : (built (k ++ [x]) false).length ≤ 128) : parent (built (k ++ [x]) false) = (built k false, 0) := by
  have hn : Names (k ++ [x]) := hk.append (fun s hs => by simp at hs; subst hs; exact hx)
  refine parent_some (by rw [normal_built hn]; simpa using h) (segments_built hn _)
theorem common_names {a b : Bool} (hk : Names k) (hm : Names m) (h1 : (built k a).length ≤ 128) (h2 : (built m b).length ≤ 128) : common (built k a) (built m b) = (built (k.take (same k m)) false, 0) := by
  rw [common_ok (by rw [normal_built hk, normal_built hm]; simp [h1, h2]), segments_built hk, segments_built hm]
theorem segsL_names (hk : Names k) (h : (built k op).length ≤ 128) : segsL (built k op) = k := by
  unfold segsL
  rw [normal_built hk, segments_built hk]; simp [h]
theorem segsE_names (hk : Names k) (h : (built k op).length ≤ 128) : segsE (built k op) = 0 := by
  unfold segsE
  rw [normal_built hk]; simp [h]
theorem small_built (h : ∀ s ∈ k, s.length ≤ 3) (hl : k.length ≤ 9) (op : Bool) : (built k op).length ≤ 128 := by
  have := built_le k op
  have := body_short h
  omega
theorem small_body (h : ∀ s ∈ k, s.length ≤ 3) (hl : k.length ≤ 9) : (body k).length ≤ 64 := by
  have := body_short h
  omega
end
end Go.Proofs.Ytldjljblcjplaaa.Dots

namespace Go.Proofs.Ytldjljblcjplaaa
open Go.RowKit Str Mem
set_option linter.unusedVariables false
set_option linter.unusedSimpArgs false

theorem lawText_yes (s : ByteArray) (w : World) : Calls Try.prog 34 #[.string s, .int .i64 0, .string s] w fun e w' => e = .returned (.bool true) ∧ w = w' := by
  have hw : (s.toList == s.toList) = true := by simp
  go_enter Try.func34, Try.ntmps34
  go_wp2
  go_ret
  exact ⟨rfl, rfl⟩

theorem lawParent_yes (p s : ByteArray) (w : World) (h : Dots.parent p.data.toList = (s.data.toList, 0)) : Calls Try.prog 32 #[.string p, .string s] w fun e w' => e = .returned (.bool true) ∧ Below w.heap.size w w' := by
  have hc := parent_any p
  rw [h, bs_data] at hc
  go_enter Try.func32, Try.ntmps32
  go_wp2_with (first
    | (go_at_call 22; refine (hc _).mono ?_; rintro e w1 ⟨rfl, hbl⟩)
    | (go_at_call 34; refine (lawText_yes _ _).mono ?_; rintro e w1 ⟨rfl, rfl⟩))
  go_ret
  exact ⟨rfl, hbl⟩

theorem lawJoin_yes (p q s : ByteArray) (w : World) (hp : p.size ≤ 100000) (hq : q.size ≤ 100000) (h : Dots.join p.data.toList q.data.toList = (s.data.toList, 0)) : Calls Try.prog 33 #[.string p, .string q, .string s] w fun e w' => e = .returned (.bool true) ∧ Below w.heap.size w w' := by
  have hc := join_any p q
  rw [h, bs_data] at hc
  go_enter Try.func33, Try.ntmps33
  go_wp2_with (first
    | (go_at_call 26; refine (hc _ hp hq).mono ?_; rintro e w1 ⟨rfl, hbl⟩)
    | (go_at_call 34; refine (lawText_yes _ _).mono ?_; rintro e w1 ⟨rfl, rfl⟩))
  go_ret
  exact ⟨rfl, hbl⟩

theorem lawCommon_yes (p q s : ByteArray) (w : World) (h : Dots.common p.data.toList q.data.toList = (s.data.toList, 0)) : Calls Try.prog 35 #[.string p, .string q, .string s] w fun e w' => e = .returned (.bool true) ∧ Below w.heap.size w w' := by
  have hc := common_any p q
  rw [h, bs_data] at hc
  go_enter Try.func35, Try.ntmps35
  go_wp2_with (first
    | (go_at_call 28; refine (hc _).mono ?_; rintro e w1 ⟨rfl, hbl⟩)
    | (go_at_call 34; refine (lawText_yes _ _).mono ?_; rintro e w1 ⟨rfl, rfl⟩))
  go_ret
  exact ⟨rfl, hbl⟩

end Go.Proofs.Ytldjljblcjplaaa
