/- slices.Clone of texts. -/
import Derived.Test.YtefilalapkdegaaRefNormal
import Derived.Test.YtefilalapkdegaaMake
import Derived.Shelf.Strings.OnBuilder
import Derived.Test.YtefilalapkdegaaProg
import Derived.Test.YtefilalapkdegaaDotsMore
import Derived.Test.YtefilalapkdegaaMem
import Derived.Test.YtefilalapkdegaaStrCut
namespace Go.Proofs.Ytefilalapkdegaa
open Go.RowKit Str Mem
set_option linter.unusedVariables false
set_option linter.unusedSimpArgs false
theorem nil_slice (n c : Nat) (w : World) : (binOp BinOp.eql 33 (.slice none n c) (.slice none 0 0)).run Try.prog w = .ok (.bool true) w := by kernel_rfl
theorem not_nil_slice (ad : Addr) (n c : Nat) (w : World) : (binOp BinOp.eql 33 (.slice (some ad) n c) (.slice none 0 0)).run Try.prog w = .ok (.bool false) w := by kernel_rfl
set_option maxRecDepth 20000 in
theorem clone_own (a : Option Addr) (c : Nat) (l : List (List UInt8)) (w : World) (hS : Strs w a l.length l) (hn : l.length ≤ 100000) :
    Calls Try.prog 58 #[.slice a l.length c] w fun e w' => ∃ v, e = .returned v ∧ Owns w' w.heap.size 9 1 v l.length (l.map sv) ∧ Below w.heap.size w w' := by
  obtain ⟨i0, hi, hz0, hz1, hz2⟩ := info_parts infoStr
  rcases a with _ | ad
  · have h0 : l = [] := by
      rcases Nat.eq_zero_or_pos l.length with h | h
      · exact List.eq_nil_of_length_eq_zero h
      · obtain ⟨ad, s, e, _⟩ := hS.get h; cases e
    subst h0
    have hnil := fun w => nil_slice 0 c w
    go_enter Try.func58, Try.ntmps58
    go_wp2
    go_ret
    exact ⟨_, rfl, Owns.nil _ _ _ _, Below.refl _ _⟩
  · have hnil := fun w => not_nil_slice ad l.length c w
    go_enter Try.func58, Try.ntmps58
    go_wp2_with (at_builtin; go_must (refine wpList_append_owns _ rfl _ _ 33 rfl w.heap.size 9 i0 (.string ⟨#[]⟩) 1 16 Try.underlying33 hi hz0 hz1 hz2 rfl (by decide) _ 0 [] rfl (Owns.fresh w _ 1) (some ad) l.length c (l.map sv) rfl (Rd.alloc hS _) (by simp [sv, Value.oneCell']) (by simp only [maxLen]; omega) (by omega) (by simp) ?_); intro v' w3 hown hgrow)
    go_ret
    exact ⟨_, rfl, by simpa using hown, ((Below.refl _ w).alloc (Nat.le_refl _) _).grown hgrow (by simp) (by rintro k hk; change some w.heap.size = some k at hk; cases hk; exact Nat.le_refl _)⟩
end Go.Proofs.Ytefilalapkdegaa
namespace Go.Proofs.Ytefilalapkdegaa
open Go.Shelf Go.RowKit Go.Proofs
def sh_lays156_ren : Go.Shelf.Ren := ⟨fun | 156 => 41 | 165 => 66 | 166 => 67 | 169 => 68 | 240 => 93 | 241 => 94 | 276 => 106 | 277 => 107 | n => n, fun | 31 => 33 | 9 => 9 | 3 => 3 | 4 => 4 | 0 => 0 | 20 => 20 | 72 => 92 | 76 => 96 | 70 => 89 | 37 => 90 | 75 => 95 | 127 => 111 | 164 => 117 | 5 => 5 | 80 => 98 | n => n, fun | n => n⟩
theorem sh_lays156 : Go.Proofs.Lays.n156 Try.prog sh_lays156_ren := {
  mixed := by kernel_rfl
  f156 := Try.func41.trans (congrArg some (by kernel_rfl))
  f165 := Try.func66.trans (congrArg some (by kernel_rfl))
  f166 := Try.func67.trans (congrArg some (by kernel_rfl))
  f169 := Try.func68.trans (congrArg some (by kernel_rfl))
  f240 := Try.func93.trans (congrArg some (by kernel_rfl))
  f241 := Try.func94.trans (congrArg some (by kernel_rfl))
  f276 := Try.func106.trans (congrArg some (by kernel_rfl))
  f277 := Try.func107.trans (congrArg some (by kernel_rfl))
  t0 := Try.underlying0
  a0 := Try.isAgg0
  z0 := Try.sizeOf0
  v0 := Try.zeroValue0
  t3 := Try.underlying3
  a3 := Try.isAgg3
  z3 := Try.sizeOf3
  v3 := Try.zeroValue3
  t4 := Try.underlying4
  a4 := Try.isAgg4
  z4 := Try.sizeOf4
  v4 := Try.zeroValue4
  t9 := Try.underlying9
  a9 := Try.isAgg9
  z9 := Try.sizeOf9
  v9 := Try.zeroValue9
  t20 := Try.underlying20
  a20 := Try.isAgg20
  z20 := Try.sizeOf20
  v20 := Try.zeroValue20
  t31 := Try.underlying33
  a31 := Try.isAgg33
  z31 := Try.sizeOf33
  v31 := Try.zeroValue33
  t37 := Try.underlying90
  a37 := Try.isAgg90
  z37 := Try.sizeOf90
  v37 := Try.zeroValue90
  t70 := Try.underlying89
  a70 := Try.isAgg89
  z70 := Try.sizeOf89
  v70 := Try.zeroValue89
  t72 := Try.underlying92
  a72 := Try.isAgg92
  z72 := Try.sizeOf92
  v72 := Try.zeroValue92
  t75 := Try.underlying95
  a75 := Try.isAgg95
  z75 := Try.sizeOf95
  v75 := Try.zeroValue95
  t76 := Try.underlying96
  a76 := Try.isAgg96
  z76 := Try.sizeOf96
  v76 := Try.zeroValue96
  t127 := Try.underlying111
  a127 := Try.isAgg111
  z127 := Try.sizeOf111
  v127 := Try.zeroValue111
  t164 := Try.underlying117
  a164 := Try.isAgg117
  z164 := Try.sizeOf117
  v164 := Try.zeroValue117 }
theorem sh_Builder_Extra_156 : Builder.Extra Try.prog sh_lays156_ren := {
  sizeBuilder := by kernel_rfl
  liesBuilder := by kernel_rfl
  t5 := Try.underlying5
  a5 := Try.isAgg5
  z5 := Try.sizeOf5
  v5 := Try.zeroValue5
  infoByte := by kernel_rfl
  cellsByte := by kernel_rfl
  sizeByte := by kernel_rfl
  neB5 := by decide }
open Go.RowKit in
theorem sh_strings_Join_none (a : Option Addr) (c : Nat) (sep : ByteArray) (w : World) :
    Calls Try.prog 41 #[.slice a 0 c, .string sep] w fun e w' => e = .returned (.string ⟨#[]⟩) ∧ w' = w := Any.strings_Join_none sh_lays156 sh_Builder_Extra_156 a c sep w
open Go.RowKit in
theorem sh_strings_Join (bk o c : Nat) (xs : List ByteArray) (sep : ByteArray) (w : World) (hcells : ∀ (j : Nat) x, xs[j]? = some x → w.cell? ⟨bk, o + j, none⟩ = some (.string x)) (hbk : bk < w.heap.size) (hN : xs.length ≤ 140737488355328) (hcap : xs.length ≤ c) (hlen : (Lib.join (xs.map (·.data.toList)) sep.data.toList).length ≤ 140737488355328) :
    Calls Try.prog 41 #[.slice (some ⟨bk, o, none⟩) xs.length c, .string sep] w fun e w' => e = .returned (.string ⟨(Lib.join (xs.map (·.data.toList)) sep.data.toList).toArray⟩) ∧ Below w.heap.size w w' := Any.strings_Join sh_lays156 sh_Builder_Extra_156 bk o c xs sep w hcells hbk hN hcap hlen
end Go.Proofs.Ytefilalapkdegaa
namespace Go.Proofs.Ytefilalapkdegaa
open Go.RowKit Str Mem
set_option linter.unusedVariables false
set_option linter.unusedSimpArgs false

theorem join_glue : ∀ l : List (List UInt8), Lib.join l [47] = Dots.glue l
  | [] => rfl
  | [x] => by rw [Lib.join_one]; rfl
  | x :: y :: r => by
    have ih := join_glue (y :: r)
    rw [Lib.join_cons] at ih ⊢
    show x ++ ([47] ++ y ++ Lib.joinTail [47] r) = x ++ 47 :: Dots.glue (y :: r)
    rw [← ih]
    simp
theorem glue_le (l : List (List UInt8)) : (Dots.glue l).length ≤ (Dots.body l).length := by
  rcases l with _ | ⟨x, r⟩
  · simp [Dots.glue]
  · rw [Dots.body_glue (x :: r) (by simp)]; simp
theorem body_drop_le (l : List (List UInt8)) (k : Nat) : (Dots.body (l.drop k)).length ≤ (Dots.body l).length := by
  have := Dots.body_append (l.take k) (l.drop k)
  rw [List.take_append_drop] at this
  rw [this, List.length_append]; omega
theorem body_count : ∀ l : List (List UInt8), l.length ≤ (Dots.body l).length
  | [] => by simp
  | x :: r => by rw [Dots.body_cons]; have := body_count r; simp; omega
theorem body_each : ∀ (l : List (List UInt8)) (s : List UInt8), s ∈ l → s.length ≤ (Dots.body l).length
  | [], s, h => by simp at h
  | x :: r, s, h => by
    rw [Dots.body_cons]
    rcases List.mem_cons.1 h with rfl | h
    · simp; omega
    · have := body_each r s h; simp; omega
theorem segs_body {p : List UInt8} (h : Dots.normal p = true) : (Dots.body (Dots.segments p)).length ≤ 128 := by
  have h1 := normal_small h
  obtain ⟨op, _, e⟩ := Dots.normal_segments h
  have : (Dots.built (Dots.segments p) op).length ≤ 128 := by rw [← e]; exact h1.2
  unfold Dots.built at this
  split at this
  · rw [List.length_append] at this; omega
  · exact this

theorem join_at {w : World} {g k sc : Nat} {P : List (List UInt8)} (hseg : Rd w 1 (some ⟨g, 0, none⟩) P.length (P.map sv)) (hk : k < P.length) (hsc : P.length ≤ sc) (hb : (Dots.body P).length ≤ 10000000000) :
    Calls Try.prog 41 #[.slice (some ⟨g, k, none⟩) (P.length - k) (sc - k), .string ⟨#[47]⟩] w fun e w' => e = .returned (.string ⟨(Dots.glue (P.drop k)).toArray⟩) ∧ Below w.heap.size w w' := by
  obtain ⟨ad, e0, hlt, hc⟩ := hseg.get (by omega)
  cases e0
  have hlen : ((P.drop k).map bs).length = P.length - k := by simp
  have hmap : ((P.drop k).map bs).map (fun x => x.data.toList) = P.drop k := by
    rw [List.map_map]
    conv => rhs; rw [← List.map_id (P.drop k)]
    exact List.map_congr_left fun s _ => data_bs s
  have hj := sh_strings_Join g k (sc - k) ((P.drop k).map bs) ⟨#[47]⟩ w
    (by
      intro j x hx
      rw [List.getElem?_map] at hx
      obtain ⟨s, hs, rfl⟩ := Option.map_eq_some_iff.1 hx
      rw [List.getElem?_drop] at hs
      have := hc (k + j) (sv s) (by rw [List.getElem?_map, hs]; rfl)
      rw [add_flat, Nat.zero_add] at this
      exact this)
    hlt (by rw [hlen]; have := body_count P; omega) (by rw [hlen]; omega)
    (by rw [hmap, show (⟨#[47]⟩ : ByteArray).data.toList = [47] from rfl, join_glue]; have := glue_le (P.drop k); have := body_drop_le P k; omega)
  rw [hlen, hmap, show (⟨#[47]⟩ : ByteArray).data.toList = [47] from rfl, join_glue] at hj
  exact hj
end Go.Proofs.Ytefilalapkdegaa
