/- template.expand where its sizes err. -/
import Derived.Test.YtllklgalghmnfaaDoorTplExpand0
namespace Go.Proofs.YtllklgalghmnfaaDoor
open Go.RowKit Str Mem Tp
set_option linter.unusedVariables false
set_option linter.unusedSimpArgs false

theorem expand_out (f : Tp.Bs → Tp.Bs) (L : List Part) (R C : List Tp.Bs) (x1 x2 x3 x4 : Tp.Bs) (most : Int) (hE : checkR L = 0) (hs : 10 < R.length ∨ 10 < C.length ∨ most < 0 ∨ 1024 < most) : expandR f R C x1 x2 x3 x4 most L = ([], 2) := by
  unfold expandR; rw [if_neg (by omega), if_pos hs]
set_option maxRecDepth 100000 in
set_option maxHeartbeats 4000000 in
theorem expand_two (G : Nat) (most : Int) (a b e : Option Addr) (ca c d : Nat) (f : Tp.Bs → Tp.Bs) (L : List Part) (R C : List Tp.Bs) (x1 x2 x3 x4 : Tp.Bs) (w : World) (hP : Parts w a L.length L) (hn : L.length ≤ 100000) (hc : L.length ≤ ca) (hcm : ca ≤ maxLen) (ht : ∀ p ∈ L, p.t.length ≤ 100000) (hN : Nm w)
    (hE : checkR L = 0) (hs : 10 < R.length ∨ 10 < C.length ∨ most < 0 ∨ 1024 < most) :
    Calls Tryd.prog 64 #[.slice a L.length ca, valsV b R.length c e C.length d x1 x2 x3 x4, .int .i64 most, .func (.func G) #[] #[]] w fun e w' => e = .returned (.tuple #[.string (bs (expandR f R C x1 x2 x3 x4 most L).1), .int .i64 (expandR f R C x1 x2 x3 x4 most L).2]) ∧ Below w.heap.size w w' := by
  have hb := (Below.refl _ w).alloc (Nat.le_refl _) (.cells #[.slice b R.length c, .slice e C.length d, .string (bs x1), .string (bs x2), .string (bs x3), .string (bs x4)] 53)
  have hrow := World.alloc_heap_new w (.cells #[.slice b R.length c, .slice e C.length d, .string (bs x1), .string (bs x2), .string (bs x3), .string (bs x4)] 53)
  have hP2 : Parts _ a L.length L := Rd.below hP hb
  have hN2 := hN.below hb hN.lt
  have hck := fun W h1 h2 => check_any a ca L W h1 hn hc hcm ht h2
  rw [expand_out f L R C x1 x2 x3 x4 most hE hs]
  rw [hE] at hck
  have HP := Lib.hid hP2
  have HN := Lib.hid hN2
  have HB := Lib.hid hb
  clear hP2 hN2 hP hN hb ht hE
  unfold valsV
  go_enter Tryd.func64, Tryd.ntmps64
  go_wp2_with fail
  refine (hck _ HP.out HN.out).mono ?_
  rintro e2 w2 ⟨rfl, h2⟩
  have hb2 := HB.out.trans (h2.mono HB.out.size)
  have hrow2 := (h2.block _ (by simp)).trans hrow
  have c0 := cell_list (cs := [.slice b R.length c, .slice e C.length d, .string (bs x1), .string (bs x2), .string (bs x3), .string (bs x4)]) hrow2 0
  have c1 := cell_list (cs := [.slice b R.length c, .slice e C.length d, .string (bs x1), .string (bs x2), .string (bs x3), .string (bs x4)]) hrow2 1
  simp only [List.getElem?_cons_zero, List.getElem?_cons_succ] at c0 c1
  clear hck
  by_cases s1 : (10 : Int) < (R.length : Int)
  · have g1 : decide ((10 : Int) < (R.length : Int)) = true := decide_eq_true s1
    go_wp2_with fail
    refine bodyPost_ret (v := .tuple #[.string ⟨#[]⟩, .int .i64 2]) (by simp [results, Tryd.results64, go_sem]) rfl ⟨rfl, hb2⟩
  by_cases s2 : (10 : Int) < (C.length : Int)
  · go_wp2_with fail
    refine bodyPost_ret (v := .tuple #[.string ⟨#[]⟩, .int .i64 2]) (by simp [results, Tryd.results64, go_sem]) rfl ⟨rfl, hb2⟩
  by_cases s3 : most < 0
  · go_wp2_with fail
    refine bodyPost_ret (v := .tuple #[.string ⟨#[]⟩, .int .i64 2]) (by simp [results, Tryd.results64, go_sem]) rfl ⟨rfl, hb2⟩
  have s4 : 1024 < most := by omega
  go_wp2_with fail
  refine bodyPost_ret (v := .tuple #[.string ⟨#[]⟩, .int .i64 2]) (by simp [results, Tryd.results64, go_sem]) rfl ⟨rfl, hb2⟩
end Go.Proofs.YtllklgalghmnfaaDoor
