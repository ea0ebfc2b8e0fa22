/- RouteKnown: the chapter's examples have the results given there. -/
import Derived.Test.YtefilalapkdegaaLawBetter
import Derived.Test.YtefilalapkdegaaRouteLaw0
import Derived.Test.YtefilalapkdegaaRoutePath
namespace Go.Proofs.Ytefilalapkdegaa
open Go.RowKit Str Mem
set_option linter.unusedVariables false
set_option linter.unusedSimpArgs false

theorem exPath (i : Nat) (a2 : Option Addr) (c2 : Nat) (vals : List (List UInt8)) (tl p : ByteArray) (ev : Int) (hv : ∀ n r, (exR n)[i]? = some r → Route.pathR (Route.err r.l r.kd r.t) r.l vals tl.data.toList = (p.data.toList, ev)) (hbd : bounded vals tl.data.toList)
    (n : Nat) (r : RtV) (hr : (exR n)[i]? = some r) (W : World) (h : RtOk W r.a r.l.length r.c r.l r.t) (hV : Strs W a2 vals.length vals) :
    Calls Try.prog 13 #[.agg #[.slice r.a r.l.length r.c, .int .i64 r.kd, .string ⟨r.t.toArray⟩], .slice a2 vals.length c2, .string tl] W fun e w' => e = .returned (.tuple #[.string p, .int .i64 ev]) ∧ Below W.heap.size W w' := by
  have := vPath_any r.a a2 r.c c2 r.l vals r.kd r.t tl W h hV hbd
  rw [hv n r hr] at this
  exact this
theorem exAll (p : ByteArray) (X : List Int) (h0 : ∀ n, allE (exR n) p.data.toList = 0) (hX : ∀ n, allK (exR n) p.data.toList = X) (n : Nat) (a : Option Addr) (c : Nat) (W : World) (h : Rts W a (exR n)) :
    Calls Try.prog 8 #[.slice a 5 c, .string p] W fun e w' => ∃ a c, e = .returned (.tuple #[.slice a X.length c, .int .i64 0]) ∧ Ints w' a X.length X ∧ Below W.heap.size W w' := by
  refine (vAll_any a c (exR n) p W h (by simp [exR]) (by have := fitTo_length (exR n) p.data.toList (exR n).length; simp only [exR, List.length_cons, List.length_nil] at this ⊢; omega)).mono ?_
  rintro e w1 ⟨a1, c1, rfl, hI, _, _, _, g⟩
  rw [h0, hX] at *
  exact ⟨a1, c1, rfl, hI, g⟩
theorem exKinds (i : Nat) (X : List Int) (h0 : ∀ n r, (exR n)[i]? = some r → Route.err r.l r.kd r.t = 0) (hX : ∀ n r, (exR n)[i]? = some r → Route.kindsR 0 r.l = X)
    (n : Nat) (r : RtV) (hr : (exR n)[i]? = some r) (W : World) (h : RtOk W r.a r.l.length r.c r.l r.t) :
    Calls Try.prog 15 #[.agg #[.slice r.a r.l.length r.c, .int .i64 r.kd, .string ⟨r.t.toArray⟩]] W fun e w' => ∃ a c, e = .returned (.tuple #[.slice a X.length c, .int .i64 0]) ∧ Ints w' a X.length X ∧ Below W.heap.size W w' := by
  have := kinds_any r.a r.c r.l r.kd r.t W h
  rw [h0 n r hr] at this
  refine this.mono ?_
  rintro e w1 ⟨a1, c1, rfl, hI, _, _, g⟩
  rw [hX n r hr] at *
  exact ⟨a1, c1, rfl, hI, g⟩
theorem cells0 {W : World} {ad : Addr} {r : RtV} (h : CellsOf W ad 0 r) : W.cell? ad = some (.slice r.a r.l.length r.c) ∧ W.cell? ⟨ad.block, ad.off + 1, none⟩ = some (.int .i64 r.kd) ∧ W.cell? ⟨ad.block, ad.off + 2, none⟩ = some (.string ⟨r.t.toArray⟩) := by
  have e : ad.add (0 * 3) = ad := by unfold Addr.add; simp
  unfold CellsOf at h
  rw [e] at h
  exact h
theorem cells2 {W : World} {ad : Addr} {r : RtV} (h : CellsOf W ad 2 r) : W.cell? ⟨ad.block, ad.off + 6, none⟩ = some (.slice r.a r.l.length r.c) ∧ W.cell? ⟨ad.block, ad.off + 6 + 1, none⟩ = some (.int .i64 r.kd) ∧ W.cell? ⟨ad.block, ad.off + 6 + 2, none⟩ = some (.string ⟨r.t.toArray⟩) := by
  have e : ad.add (2 * 3) = ⟨ad.block, ad.off + 6, none⟩ := by unfold Addr.add; simp
  unfold CellsOf at h
  rw [e] at h
  exact h
def hidR (n : Nat) : List RtV :=
  [⟨some ⟨n, 0, none⟩, 2, [[117, 115, 101, 114, 115], [123, 105, 100, 125]], 1, []⟩, ⟨some ⟨n + 1, 0, none⟩, 2, [[117, 115, 101, 114, 115], [123, 120, 125]], 1, []⟩, ⟨some ⟨n + 2, 0, none⟩, 2, [[117, 115, 101, 114, 115], [42]], 1, []⟩]
theorem exHidden (n : Nat) (a : Option Addr) (c : Nat) (W : World) (h : Rts W a (hidR n)) :
    Calls Try.prog 14 #[.slice a 3 c] W fun e w' => ∃ a c, e = .returned (.tuple #[.slice a 1 c, .int .i64 0]) ∧ Ints w' a 1 [1] ∧ Below W.heap.size W w' := by
  refine (vHidden_any a c (hidR n) W h (by simp [hidR])).mono ?_
  rintro e w1 ⟨a1, c1, rfl, hI, _, _, _, g⟩
  have h0 : (checkR (hidR n)).1 = 0 := by kernel_rfl
  have h1 : hidK (hidR n) = [1] := by kernel_rfl
  rw [h0, h1] at *
  exact ⟨a1, c1, rfl, hI, g⟩
theorem hid_rts (w : World) (T : Nat) : Rts ((((w.alloc (.cells ([[117, 115, 101, 114, 115], [123, 105, 100, 125]].map sv).toArray 9)).alloc (.cells ([[117, 115, 101, 114, 115], [123, 120, 125]].map sv).toArray 9)).alloc (.cells ([[117, 115, 101, 114, 115], [42]].map sv).toArray 9)).alloc (.cells ((hidR w.heap.size).flatMap RtV.cells).toArray T)) (some ⟨w.heap.size + 3, 0, none⟩) (hidR w.heap.size) := by
  have s0 := Rd.fresh w 9 ([[117, 115, 101, 114, 115], [123, 105, 100, 125]].map sv) 1 2 w.heap.size rfl rfl
  have s1 := Rd.fresh (w.alloc (.cells ([[117, 115, 101, 114, 115], [123, 105, 100, 125]].map sv).toArray 9)) 9 ([[117, 115, 101, 114, 115], [123, 120, 125]].map sv) 1 2 (w.heap.size + 1) (by simp) rfl
  have s2 := Rd.fresh ((w.alloc (.cells ([[117, 115, 101, 114, 115], [123, 105, 100, 125]].map sv).toArray 9)).alloc (.cells ([[117, 115, 101, 114, 115], [123, 120, 125]].map sv).toArray 9)) 9 ([[117, 115, 101, 114, 115], [42]].map sv) 1 2 (w.heap.size + 2) (by simp) rfl
  refine ⟨?_, ?_⟩
  · exact Rd.fresh _ _ _ 3 3 _ (by simp) rfl
  · intro r hr
    simp only [hidR, List.mem_cons, List.not_mem_nil, or_false] at hr
    rcases hr with rfl | rfl | rfl
    · exact ⟨((s0.alloc _).alloc _).alloc _, by simp, by simp [maxLen], by simp, by simp⟩
    · exact ⟨(s1.alloc _).alloc _, by simp, by simp [maxLen], by simp, by simp⟩
    · exact ⟨s2.alloc _, by simp, by simp [maxLen], by simp, by simp⟩

set_option maxRecDepth 20000 in
set_option maxHeartbeats 16000000 in
theorem lawRouteKnown_any (w : World) : Calls Try.prog 3 #[] w fun e w' => e = .returned (.bool true) ∧ Below w.heap.size w w' := by
  have f1 := fun W => finds_yes ⟨#[47]⟩ ⟨#[]⟩ 3 none 0 [] W (Rd.nil _ _ _) (by simp) (fun n => by kernel_rfl) (fun n => by kernel_rfl) (.inr ⟨by decide, 3, fun n => by kernel_rfl, fun n => ⟨_, [], rfl, by kernel_rfl⟩⟩)
  have f2 := fun va W hv => finds_yes ⟨#[47, 120, 47, 121]⟩ ⟨#[]⟩ 4 va 2 [[120], [121]] W hv (by simp) (fun n => by kernel_rfl) (fun n => by kernel_rfl) (.inr ⟨by decide, 4, fun n => by kernel_rfl, fun n => ⟨_, [[97], [98]], rfl, by kernel_rfl⟩⟩)
  have f3 := fun va W hv => finds_yes ⟨#[47, 120, 47, 121, 47]⟩ ⟨#[]⟩ 4 va 2 [[120], [121]] W hv (by simp) (fun n => by kernel_rfl) (fun n => by kernel_rfl) (.inr ⟨by decide, 4, fun n => by kernel_rfl, fun n => ⟨_, [[97], [98]], rfl, by kernel_rfl⟩⟩)
  have f4 := fun W => finds_yes ⟨#[47, 117, 115, 101, 114, 115]⟩ ⟨#[]⟩ 2 none 0 [] W (Rd.nil _ _ _) (by simp) (fun n => by kernel_rfl) (fun n => by kernel_rfl) (.inr ⟨by decide, 2, fun n => by kernel_rfl, fun n => ⟨_, [], rfl, by kernel_rfl⟩⟩)
  have f5 := fun W => finds_yes ⟨#[47, 117, 115, 101, 114, 115, 47]⟩ ⟨#[]⟩ 2 none 0 [] W (Rd.nil _ _ _) (by simp) (fun n => by kernel_rfl) (fun n => by kernel_rfl) (.inr ⟨by decide, 2, fun n => by kernel_rfl, fun n => ⟨_, [], rfl, by kernel_rfl⟩⟩)
  have fA := exAll ⟨#[47, 117, 115, 101, 114, 115, 47, 109, 101]⟩ [1, 0, 2, 4] (fun n => by kernel_rfl) (fun n => by kernel_rfl)
  have b1 := fun W => lawBetter_any 0 1 (by omega) (by omega) (1, 0) W (fun n m r s hr hs => by cases hr; cases hs; kernel_rfl)
  have b2 := fun W => lawBetter_any 0 2 (by omega) (by omega) (-1, 0) W (fun n m r s hr hs => by cases hr; cases hs; kernel_rfl)
  have b3 := fun W => lawBetter_any 1 3 (by omega) (by omega) (0, 3) W (fun n m r s hr hs => by cases hr; cases hs; kernel_rfl)
  have b4 := fun W => lawBetter_any 2 2 (by omega) (by omega) (0, 0) W (fun n m r s hr hs => by cases hr; cases hs; kernel_rfl)
  have p1 := fun a2 => exPath 0 a2 1 [[55]] ⟨#[]⟩ ⟨#[47, 117, 115, 101, 114, 115, 47, 55]⟩ 0 (fun n r hr => by cases hr; kernel_rfl) ⟨by simp, by simp, by simp⟩
  have p2 := fun a2 => exPath 0 a2 1 [[97, 47, 98]] ⟨#[]⟩ ⟨#[]⟩ 3 (fun n r hr => by cases hr; kernel_rfl) ⟨by simp, by simp, by simp⟩
  have p3 := exPath 2 none 0 [] ⟨#[120, 47]⟩ ⟨#[47, 117, 115, 101, 114, 115, 47, 120, 47]⟩ 0 (fun n r hr => by cases hr; kernel_rfl) ⟨by simp, by simp, by simp⟩
  have p4 := exPath 2 none 0 [] ⟨#[46, 46]⟩ ⟨#[]⟩ 18 (fun n r hr => by cases hr; kernel_rfl) ⟨by simp, by simp, by simp⟩
  have p5 := exPath 0 none 0 [] ⟨#[]⟩ ⟨#[]⟩ 6 (fun n r hr => by cases hr; kernel_rfl) ⟨by simp, by simp, by simp⟩
  have kd := exKinds 2 [1, 3] (fun n r hr => by cases hr; kernel_rfl) (fun n r hr => by cases hr; kernel_rfl)
  go_enter Try.func3, Try.ntmps3
  go_wp2_with fail
  refine (routes_any _).mono ?_
  rintro e w1 ⟨ra, rc, rfl, hR, h1⟩
  go_wp2_with fail
  refine (fA _ _ _ _ hR).mono ?_
  rintro e w2 ⟨la, lc, rfl, hI, g2⟩
  have h2 := h1.trans (g2.mono h1.size)
  go_wp2_with fail
  refine (f1 _).mono ?_
  rintro e w3 ⟨rfl, g3⟩
  have h3 := h2.trans (g3.mono h2.size)
  have hI := hI.below g3
  go_wp2_with fail
  have x4 := h3.alloc h3.size (.cells #[.string ⟨#[120]⟩, .string ⟨#[121]⟩] 9)
  refine (f2 (some ⟨w3.heap.size, 0, none⟩) _ (Rd.fresh w3 9 [sv [120], sv [121]] 1 2 _ rfl rfl)).mono ?_
  rintro e w4 ⟨rfl, g4⟩
  have h4 := x4.trans (g4.mono x4.size)
  have hI := (hI.alloc _).below g4
  go_wp2_with fail
  have x5 := h4.alloc h4.size (.cells #[.string ⟨#[120]⟩, .string ⟨#[121]⟩] 9)
  refine (f3 (some ⟨w4.heap.size, 0, none⟩) _ (Rd.fresh w4 9 [sv [120], sv [121]] 1 2 _ rfl rfl)).mono ?_
  rintro e w5 ⟨rfl, g5⟩
  have h5 := x5.trans (g5.mono x5.size)
  have hI := (hI.alloc _).below g5
  go_wp2_with fail
  refine (f4 _).mono ?_
  rintro e w6 ⟨rfl, g6⟩
  have h6 := h5.trans (g6.mono h5.size)
  have hI := hI.below g6
  go_wp2_with fail
  refine (f5 _).mono ?_
  rintro e w7 ⟨rfl, g7⟩
  have h7 := h6.trans (g7.mono h6.size)
  have hI := hI.below g7
  go_wp2_with fail
  have x8 := h7.alloc h7.size (.cells #[.int .i64 1, .int .i64 0, .int .i64 2, .int .i64 4] 3)
  refine (sameInts_any la (some ⟨w7.heap.size, 0, none⟩) lc 4 [1, 0, 2, 4] _ (hI.alloc _) (Rd.fresh w7 3 [iv 1, iv 0, iv 2, iv 4] 1 4 _ rfl rfl) (by simp)).mono ?_
  rintro e w8 ⟨rfl, g8⟩
  have h8 := x8.trans (g8.mono x8.size)
  go_wp2_with fail
  refine (b1 _).mono ?_
  rintro e w9 ⟨rfl, g9⟩
  have h9 := h8.trans (g9.mono h8.size)
  go_wp2_with fail
  refine (b2 _).mono ?_
  rintro e w10 ⟨rfl, g10⟩
  have h10 := h9.trans (g10.mono h9.size)
  go_wp2_with fail
  refine (b3 _).mono ?_
  rintro e w11 ⟨rfl, g11⟩
  have h11 := h10.trans (g11.mono h10.size)
  go_wp2_with fail
  refine (b4 _).mono ?_
  rintro e w12 ⟨rfl, g12⟩
  have h12 := h11.trans (g12.mono h11.size)
  go_wp2_with fail
  refine (routes_at _ 0 (by omega)).mono ?_
  rintro e w13 ⟨ad13, c13, r13, rfl, hr13, hA13, g13⟩
  have h13 := h12.trans (g13.mono h12.size)
  obtain ⟨z0, z1, z2⟩ := cells0 (hA13 _ (Below.refl _ _)).1
  have y13 := (Below.refl _ w13).alloc (Nat.le_refl _) (.cells #[.string ⟨#[55]⟩] 9)
  go_wp2_with fail
  have x14 := h13.alloc h13.size (.cells #[.string ⟨#[55]⟩] 9)
  refine (p1 (some ⟨w13.heap.size, 0, none⟩) _ _ hr13 _ (hA13 _ y13).2 (Rd.fresh w13 9 [sv [55]] 1 1 _ rfl rfl)).mono ?_
  rintro e w14 ⟨rfl, g14⟩
  have h14 := x14.trans (g14.mono x14.size)
  clear z0 z1 z2
  go_wp2_with fail
  refine (routes_at _ 0 (by omega)).mono ?_
  rintro e w15 ⟨ad15, c15, r15, rfl, hr15, hA15, g15⟩
  have h15 := h14.trans (g15.mono h14.size)
  obtain ⟨z0, z1, z2⟩ := cells0 (hA15 _ (Below.refl _ _)).1
  have y15 := (Below.refl _ w15).alloc (Nat.le_refl _) (.cells #[.string ⟨#[97, 47, 98]⟩] 9)
  go_wp2_with fail
  have x16 := h15.alloc h15.size (.cells #[.string ⟨#[97, 47, 98]⟩] 9)
  refine (p2 (some ⟨w15.heap.size, 0, none⟩) _ _ hr15 _ (hA15 _ y15).2 (Rd.fresh w15 9 [sv [97, 47, 98]] 1 1 _ rfl rfl)).mono ?_
  rintro e w16 ⟨rfl, g16⟩
  have h16 := x16.trans (g16.mono x16.size)
  clear z0 z1 z2
  go_wp2_with fail
  refine (routes_at _ 2 (by omega)).mono ?_
  rintro e w17 ⟨ad17, c17, r17, rfl, hr17, hA17, g17⟩
  have h17 := h16.trans (g17.mono h16.size)
  obtain ⟨z0, z1, z2⟩ := cells2 (hA17 _ (Below.refl _ _)).1
  go_wp2_with fail
  refine (p3 _ _ hr17 _ (hA17 _ (Below.refl _ _)).2 (Rd.nil _ _ _)).mono ?_
  rintro e w18 ⟨rfl, g18⟩
  have h18 := h17.trans (g18.mono h17.size)
  clear z0 z1 z2
  go_wp2_with fail
  refine (routes_at _ 2 (by omega)).mono ?_
  rintro e w19 ⟨ad19, c19, r19, rfl, hr19, hA19, g19⟩
  have h19 := h18.trans (g19.mono h18.size)
  obtain ⟨z0, z1, z2⟩ := cells2 (hA19 _ (Below.refl _ _)).1
  go_wp2_with fail
  refine (p4 _ _ hr19 _ (hA19 _ (Below.refl _ _)).2 (Rd.nil _ _ _)).mono ?_
  rintro e w20 ⟨rfl, g20⟩
  have h20 := h19.trans (g20.mono h19.size)
  clear z0 z1 z2
  go_wp2_with fail
  refine (routes_at _ 0 (by omega)).mono ?_
  rintro e w21 ⟨ad21, c21, r21, rfl, hr21, hA21, g21⟩
  have h21 := h20.trans (g21.mono h20.size)
  obtain ⟨z0, z1, z2⟩ := cells0 (hA21 _ (Below.refl _ _)).1
  go_wp2_with fail
  refine (p5 _ _ hr21 _ (hA21 _ (Below.refl _ _)).2 (Rd.nil _ _ _)).mono ?_
  rintro e w22 ⟨rfl, g22⟩
  have h22 := h21.trans (g22.mono h21.size)
  clear z0 z1 z2
  have q22 := (((h22.alloc h22.size (.cells #[.string ⟨#[117, 115, 101, 114, 115]⟩, .string ⟨#[123, 105, 100, 125]⟩] 9)).alloc (by simp; have := h22.size; omega) (.cells #[.string ⟨#[117, 115, 101, 114, 115]⟩, .string ⟨#[123, 120, 125]⟩] 9)).alloc (by simp; have := h22.size; omega) (.cells #[.string ⟨#[117, 115, 101, 114, 115]⟩, .string ⟨#[42]⟩] 9)).alloc (by simp; have := h22.size; omega) (.cells ((hidR w22.heap.size).flatMap RtV.cells).toArray 35)
  go_wp2_with fail
  refine (exHidden _ _ 3 _ (hid_rts w22 35)).mono ?_
  rintro e w23 ⟨ha, hc, rfl, hI, g23⟩
  have h23 := q22.trans (g23.mono q22.size)
  go_wp2_with fail
  refine (routes_at _ 2 (by omega)).mono ?_
  rintro e w24 ⟨ad24, c24, r24, rfl, hr24, hA24, g24⟩
  have h24 := h23.trans (g24.mono h23.size)
  have hI := hI.below g24
  obtain ⟨z0, z1, z2⟩ := cells2 (hA24 _ (Below.refl _ _)).1
  go_wp2_with fail
  refine (kd _ _ hr24 _ (hA24 _ (Below.refl _ _)).2).mono ?_
  rintro e w25 ⟨ka, kc, rfl, hK, g25⟩
  have h25 := h24.trans (g25.mono h24.size)
  have hI := hI.below g25
  clear z0 z1 z2
  go_wp2_with fail
  have x26 := h25.alloc h25.size (.cells #[.int .i64 1] 3)
  refine (sameInts_any ha (some ⟨w25.heap.size, 0, none⟩) hc 1 [1] _ (hI.alloc _) (Rd.fresh w25 3 [iv 1] 1 1 _ rfl rfl) (by simp)).mono ?_
  rintro e w26 ⟨rfl, g26⟩
  have h26 := x26.trans (g26.mono x26.size)
  have hK := (hK.alloc _).below g26
  go_wp2_with fail
  have x27 := h26.alloc h26.size (.cells #[.int .i64 1, .int .i64 3] 3)
  refine (sameInts_any ka (some ⟨w26.heap.size, 0, none⟩) kc 2 [1, 3] _ (hK.alloc _) (Rd.fresh w26 3 [iv 1, iv 3] 1 2 _ rfl rfl) (by simp)).mono ?_
  rintro e w27 ⟨rfl, g27⟩
  have h27 := x27.trans (g27.mono x27.size)
  go_wp2_with fail
  refine (awake41_any _).mono ?_
  rintro e w28 ⟨rfl, g28⟩
  have h28 := h27.trans (g28.mono h27.size)
  go_wp2
  go_ret
  exact ⟨rfl, h28⟩
end Go.Proofs.Ytefilalapkdegaa
