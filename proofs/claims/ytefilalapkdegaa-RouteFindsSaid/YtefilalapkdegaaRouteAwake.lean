/- The chapter's examples: what is found of five routes. -/
import Derived.Test.YtefilalapkdegaaRouteFind
import Derived.Test.YtefilalapkdegaaMake
namespace Go.Proofs.Ytefilalapkdegaa
open Go.RowKit Str Mem
set_option linter.unusedVariables false
set_option linter.unusedSimpArgs false

theorem Rd.fresh (w : World) (t : TypeId) (cs : List Value) (sz n N : Nat) (hN : N = w.heap.size) (h : cs.length = n * sz) : Rd (w.alloc (.cells cs.toArray t)) sz (some ⟨N, 0, none⟩) n cs := by
  subst hN
  exact ⟨h, fun _ => ⟨_, rfl, by simp, fun j u hu => by rw [add_flat, Nat.zero_add, row_cell (heap_alloc_new w _)]; exact hu⟩⟩

/-- The chapter's routes, wherever their rows lie. -/
def exR (n : Nat) : List RtV :=
  [⟨some ⟨n, 0, none⟩, 2, [[117, 115, 101, 114, 115], [123, 105, 100, 125]], 1, []⟩, ⟨some ⟨n + 1, 0, none⟩, 2, [[117, 115, 101, 114, 115], [109, 101]], 1, []⟩, ⟨some ⟨n + 2, 0, none⟩, 2, [[117, 115, 101, 114, 115], [42]], 1, []⟩, ⟨none, 0, [], 1, []⟩, ⟨some ⟨n + 3, 0, none⟩, 2, [[123, 97, 125], [123, 98, 125]], 1, []⟩]

set_option maxRecDepth 20000 in
set_option maxHeartbeats 2000000 in
theorem routes_any (w : World) : Calls Try.prog 9 #[] w fun e w' => ∃ a c, e = .returned (.slice a 5 c) ∧ Rts w' a (exR w.heap.size) ∧ Below w.heap.size w w' := by
  go_enter Try.func9, Try.ntmps9
  go_wp2
  go_ret
  refine ⟨_, _, rfl, ?_, ?_⟩
  · have s0 := Rd.fresh w 9 ([[117, 115, 101, 114, 115], [123, 105, 100, 125]].map sv) 1 2 w.heap.size rfl rfl
    have s1 := Rd.fresh (w.alloc (.cells ([[117, 115, 101, 114, 115], [123, 105, 100, 125]].map sv).toArray 9)) 9 ([[117, 115, 101, 114, 115], [109, 101]].map sv) 1 2 (w.heap.size + 1) (by simp) rfl
    have s2 := Rd.fresh ((w.alloc (.cells ([[117, 115, 101, 114, 115], [123, 105, 100, 125]].map sv).toArray 9)).alloc (.cells ([[117, 115, 101, 114, 115], [109, 101]].map sv).toArray 9)) 9 ([[117, 115, 101, 114, 115], [42]].map sv) 1 2 (w.heap.size + 2) (by simp) rfl
    have s3 := Rd.fresh (((w.alloc (.cells ([[117, 115, 101, 114, 115], [123, 105, 100, 125]].map sv).toArray 9)).alloc (.cells ([[117, 115, 101, 114, 115], [109, 101]].map sv).toArray 9)).alloc (.cells ([[117, 115, 101, 114, 115], [42]].map sv).toArray 9)) 9 ([[123, 97, 125], [123, 98, 125]].map sv) 1 2 (w.heap.size + 3) (by simp) rfl
    refine ⟨?_, ?_⟩
    · exact Rd.fresh _ _ _ 3 5 _ (by simp) rfl
    · intro r hr
      simp only [exR, List.mem_cons, List.not_mem_nil, or_false] at hr
      rcases hr with rfl | rfl | rfl | rfl | rfl
      · exact ⟨(((s0.alloc _).alloc _).alloc _).alloc _, by simp, by simp [maxLen], by simp, by simp⟩
      · exact ⟨((s1.alloc _).alloc _).alloc _, by simp, by simp [maxLen], by simp, by simp⟩
      · exact ⟨(s2.alloc _).alloc _, by simp, by simp [maxLen], by simp, by simp⟩
      · exact ⟨Rd.nil _ _ _, by simp, by simp [maxLen], by simp, by simp⟩
      · exact ⟨s3.alloc _, by simp, by simp [maxLen], by simp, by simp⟩
  · exact (((((Below.refl _ w).alloc (Nat.le_refl _) _).alloc (by simp) _).alloc (by simp; omega) _).alloc (by simp; omega) _).alloc (by simp; omega) _

set_option maxRecDepth 20000 in
set_option maxHeartbeats 4000000 in
theorem finds_yes (p rest : ByteArray) (want : Int) (va : Option Addr) (vc : Nat) (vals : List (List UInt8)) (w : World) (hv : Strs w va vals.length vals) (hvl : vals.length ≤ 100)
    (hE : ∀ n, allE (exR n) p.data.toList = 0) (hN : ∀ n, findN (exR n) p.data.toList = want)
    (hF : (∀ n, firstK (exR n) p.data.toList = none) ∧ want < 0 ∧ rest.data.toList = [] ∧ vals = [] ∨ 0 ≤ want ∧ ∃ i, (∀ n, firstK (exR n) p.data.toList = some i) ∧ ∀ n, ∃ r N, (exR n)[i]? = some r ∧ Route.fit (Dots.isOpen p.data.toList) r.l (Dots.segments p.data.toList) = some (N, vals, rest.data.toList)) :
    Calls Try.prog 10 #[.string p, .int .i64 want, .string rest, .slice va vals.length vc] w fun e w' => e = .returned (.bool true) ∧ Below w.heap.size w w' := by
  have hro := routes_any w
  go_enter Try.func10, Try.ntmps10
  go_wp2_with fail
  refine hro.mono ?_
  rintro e w1 ⟨ra, rc, rfl, hR, g1⟩
  have hfi := vFind_any ra rc (exR w.heap.size) p w1 hR (by simp [exR]) (by have := fitTo_length (exR w.heap.size) p.data.toList (exR w.heap.size).length; simp only [exR, List.length_cons, List.length_nil] at this ⊢; omega)
  unfold FindPost at hfi
  rw [hE, hN] at hfi
  have hl5 : (exR w.heap.size).length = 5 := rfl
  rw [hl5] at hfi
  go_wp2_with fail
  refine hfi.mono ?_
  rintro e w2 ⟨v, rfl, hFI, g2⟩
  have hb2 := g1.trans (g2.mono g1.size)
  unfold FindIs at hFI
  rcases hF with ⟨h1, h2, h3, rfl⟩ | ⟨h2, i, h1, h4⟩
  · rw [h1] at hFI
    simp only at hFI
    subst hFI
    obtain rfl : rest = ⟨#[]⟩ := eq_of_data h3
    have h2' : ¬ (0 : Int) ≤ want := by omega
    obtain ⟨W3, hW3⟩ : ∃ W3, W3 = w2.alloc (.cells #[.bool false, .slice none 0 0, .int .i64 0, .string ⟨#[]⟩, .slice none 0 0, .slice none 0 0, .string ⟨#[]⟩] 43) := ⟨_, rfl⟩
    have hb3 : Below w.heap.size w W3 := by rw [hW3]; exact hb2.alloc hb2.size _
    have hsm := sameTexts_any none va 0 vc [] [] W3 (Rd.nil _ _ _) (hv.below hb3) (by simp [maxLen])
    rw [hW3] at hsm
    simp only [List.length_nil] at hsm
    go_wp2_with fail
    refine hsm.mono ?_
    rintro e w4 ⟨rfl, g4⟩
    rw [← hW3] at g4
    go_wp2
    go_ret
    exact ⟨ret_bool (by rw [decide_eq_false (show ¬ (0 : Int) ≤ want by omega)]; rfl), hb3.trans (g4.mono hb3.size)⟩
  · rw [h1] at hFI
    simp only at hFI
    obtain ⟨r, hr, hFo⟩ := hFI
    obtain ⟨r', N, hr', hfit⟩ := h4 w.heap.size
    rw [hr] at hr'
    cases hr'
    rw [hfit] at hFo
    obtain ⟨vl, vN, vV, rfl, ⟨a1, d1, rfl, _⟩, ⟨a2, d2, rfl, _⟩, ⟨a3, d3, rfl, _, _, hV3, _⟩⟩ := hFo
    have hre : (⟨rest.data.toList.toArray⟩ : ByteArray) = rest := eq_of_data rfl
    rw [hre]
    obtain ⟨W3, hW3⟩ : ∃ W3, W3 = w2.alloc (.cells #[.bool true, .slice a1 r.l.length d1, .int .i64 r.kd, .string ⟨r.t.toArray⟩, .slice a2 N.length d2, .slice a3 vals.length d3, .string rest] 43) := ⟨_, rfl⟩
    have hb3 : Below w.heap.size w W3 := by rw [hW3]; exact hb2.alloc hb2.size _
    have hb23 : Below w2.heap.size w2 W3 := by rw [hW3]; exact (Below.refl _ w2).alloc (Nat.le_refl _) _
    have hsm := sameTexts_any a3 va d3 vc vals vals W3 (Strs.below hV3 hb23) (hv.below hb3) (by simp only [maxLen]; omega)
    rw [hW3] at hsm
    rw [show (vals == vals) = true by simp] at hsm
    clear hre
    go_wp2_with fail
    refine hsm.mono ?_
    rintro e w4 ⟨rfl, g4⟩
    rw [← hW3] at g4
    go_wp2
    go_ret
    exact ⟨rfl, hb3.trans (g4.mono hb3.size)⟩
/-- awake: true. -/
theorem exE (p : List UInt8) (h : Dots.normal p = true) (n : Nat) (hc : checkR (exR n) = (0, 0)) : allE (exR n) p = 0 := by unfold allE; rw [hc, h]; rfl

set_option maxRecDepth 20000 in
set_option maxHeartbeats 4000000 in
theorem awake41_any (w : World) : Calls Try.prog 16 #[] w fun e w' => e = .returned (.bool true) ∧ Below w.heap.size w w' := by
  have f1 := fun W => finds_yes ⟨#[47, 117, 115, 101, 114, 115, 47, 109, 101]⟩ ⟨#[]⟩ 1 none 0 [] W (Rd.nil _ _ _) (by simp) (fun n => by kernel_rfl) (fun n => by kernel_rfl) (.inr ⟨by decide, 1, fun n => by kernel_rfl, fun n => ⟨_, [], rfl, by kernel_rfl⟩⟩)
  have f2 := fun va W hv => finds_yes ⟨#[47, 117, 115, 101, 114, 115, 47, 55]⟩ ⟨#[]⟩ 0 va 1 [[55]] W hv (by simp) (fun n => by kernel_rfl) (fun n => by kernel_rfl) (.inr ⟨by decide, 0, fun n => by kernel_rfl, fun n => ⟨_, [[105, 100]], rfl, by kernel_rfl⟩⟩)
  have f3 := fun W => finds_yes ⟨#[47, 117, 115, 101, 114, 115, 47, 55, 47, 120, 47]⟩ ⟨#[55, 47, 120, 47]⟩ 2 none 0 [] W (Rd.nil _ _ _) (by simp) (fun n => by kernel_rfl) (fun n => by kernel_rfl) (.inr ⟨by decide, 2, fun n => by kernel_rfl, fun n => ⟨_, [], rfl, by kernel_rfl⟩⟩)
  have f4 := fun W => finds_yes ⟨#[47, 120]⟩ ⟨#[]⟩ (-1) none 0 [] W (Rd.nil _ _ _) (by simp) (fun n => by kernel_rfl) (fun n => by kernel_rfl) (.inl ⟨fun n => by kernel_rfl, by decide, rfl, rfl⟩)
  go_enter Try.func16, Try.ntmps16
  go_wp2_with fail
  refine (f1 _).mono ?_
  rintro e w1 ⟨rfl, g1⟩
  go_wp2_with fail
  have hba := g1.alloc g1.size (.cells #[.string ⟨#[55]⟩] 9)
  refine (f2 (some ⟨w1.heap.size, 0, none⟩) _ (Rd.fresh w1 9 [sv [55]] 1 1 _ rfl rfl)).mono ?_
  rintro e w2 ⟨rfl, g2⟩
  have hb2 := hba.trans (g2.mono hba.size)
  go_wp2_with fail
  refine (f3 _).mono ?_
  rintro e w3 ⟨rfl, g3⟩
  have hb3 := hb2.trans (g3.mono hb2.size)
  go_wp2_with fail
  refine (f4 _).mono ?_
  rintro e w4 ⟨rfl, g4⟩
  go_wp2
  go_ret
  exact ⟨rfl, hb3.trans (g4.mono hb3.size)⟩

end Go.Proofs.Ytefilalapkdegaa
