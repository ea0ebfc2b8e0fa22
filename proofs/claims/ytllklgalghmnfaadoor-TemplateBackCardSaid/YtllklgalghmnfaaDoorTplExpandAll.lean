/- template.Expand: its contract. -/
import Derived.Test.YtllklgalghmnfaaDoorTplExpand
namespace Go.Proofs.YtllklgalghmnfaaDoor
open Go.RowKit Str Mem Tp
set_option linter.unusedVariables false
set_option linter.unusedSimpArgs false

theorem expand_any (most : Int) (a b e : Option Addr) (ca c d : Nat) (L : List Part) (R C : List Tp.Bs) (x1 x2 x3 x4 : Tp.Bs) (w : World) (hP : Parts w a L.length L) (hn : L.length ≤ 100000) (hc : L.length ≤ ca) (hcm : ca ≤ maxLen) (ht : ∀ p ∈ L, p.t.length ≤ 100000) (hN : Nm w)
    (hR : Strs w b R.length R) (hC : Strs w e C.length C)
    (hfb : ∀ p ∈ L, (valueR R C x1 x2 x3 x4 p).length ≤ 1000000) :
    Calls Tryd.prog 64 #[.slice a L.length ca, valsV b R.length c e C.length d x1 x2 x3 x4, .int .i64 most, .func (.func 65) #[] #[]] w fun e w' => e = .returned (.tuple #[.string (bs (expandR id R C x1 x2 x3 x4 most L).1), .int .i64 (expandR id R C x1 x2 x3 x4 most L).2]) ∧ Below w.heap.size w w' := by
  by_cases hE : checkR L = 0
  · by_cases hs : 10 < R.length ∨ 10 < C.length ∨ most < 0 ∨ 1024 < most
    · exact expand_two _ _ most a b e ca c d id L R C x1 x2 x3 x4 w hP hn hc hcm ht hN hE hs
    · exact expand_loop most a b e ca c d id L R C x1 x2 x3 x4 w hP hn hc hcm ht hN hR hC (fun s W => through_id s W) hfb hE (by omega) (by omega) (by omega) (by omega)
  · exact expand_err _ _ most a b e ca c d id L R C x1 x2 x3 x4 w hP hn hc hcm ht hN hE

set_option maxRecDepth 100000 in
set_option maxHeartbeats 4000000 in
theorem Expand_any (most : Int) (a b e : Option Addr) (ca c d : Nat) (L : List Part) (R C : List Tp.Bs) (x1 x2 x3 x4 : Tp.Bs) (w : World) (hP : Parts w a L.length L) (hn : L.length ≤ 100000) (hc : L.length ≤ ca) (hcm : ca ≤ maxLen) (ht : ∀ p ∈ L, p.t.length ≤ 100000) (hN : Nm w)
    (hR : Strs w b R.length R) (hC : Strs w e C.length C)
    (hfb : ∀ p ∈ L, (valueR R C x1 x2 x3 x4 p).length ≤ 1000000) :
    Calls Tryd.prog 32 #[.slice a L.length ca, valsV b R.length c e C.length d x1 x2 x3 x4, .int .i64 most] w fun e w' => e = .returned (.tuple #[.string (bs (expandR id R C x1 x2 x3 x4 most L).1), .int .i64 (expandR id R C x1 x2 x3 x4 most L).2]) ∧ Below w.heap.size w w' := by
  have hb := (Below.refl _ w).alloc (Nat.le_refl _) (.cells #[.slice b R.length c, .slice e C.length d, .string (bs x1), .string (bs x2), .string (bs x3), .string (bs x4)] 53)
  have hx := expand_any most a b e ca c d L R C x1 x2 x3 x4 _ (show Parts _ a L.length L from Rd.below hP hb) hn hc hcm ht (hN.below hb hN.lt) (show Strs _ b R.length R from Rd.below hR hb) (show Strs _ e C.length C from Rd.below hC hb) hfb
  obtain ⟨O, hO⟩ : ∃ O, expandR id R C x1 x2 x3 x4 most L = O := ⟨_, rfl⟩
  rw [hO] at hx ⊢
  have HX := Lib.hid hx
  have HB := Lib.hid hb
  clear hx hb hP hR hC hN ht hfb hO
  have hv0 : valsV b R.length c e C.length d x1 x2 x3 x4 = .agg #[.slice b R.length c, .slice e C.length d, .string (bs x1), .string (bs x2), .string (bs x3), .string (bs x4)] := rfl
  rw [hv0] at HX ⊢
  clear hv0
  go_enter Tryd.func32, Tryd.ntmps32
  go_wp2_with fail
  refine HX.out.mono ?_
  rintro e2 w2 ⟨rfl, h2⟩
  go_wp2_with fail
  refine bodyPost_ret (v := .tuple #[.string (bs O.1), .int .i64 O.2]) (by simp [results, Tryd.results32, go_sem]) rfl ⟨rfl, HB.out.trans (h2.mono HB.out.size)⟩
end Go.Proofs.YtllklgalghmnfaaDoor
