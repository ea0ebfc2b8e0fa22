/- Text and Literal of both. -/
import Derived.Test.YtllklgalghmnfaaDoorTplRefChecked
import Derived.Deep.LoopGhost
import Derived.RegionTactic
import Derived.Deep.QuietTactic
import Derived.BigQuiet
namespace Go.Proofs.YtllklgalghmnfaaDoor
open Go.RowKit Str Mem Tp
set_option linter.unusedVariables false
set_option linter.unusedSimpArgs false

theorem zero_len {L : List Part} (h : checkR L = 0) : checkTo L false = 0 ∧ (textP L).length ≤ 96 := by
  unfold checkR at h
  split at h
  · rename_i h1; exact absurd h h1
  · rename_i h1
    split at h
    · cases h
    · exact ⟨by simpa using h1, by omega⟩
theorem zero_lit {L : List Part} (h : checkR L = 0) : ∀ p ∈ L, p.k ≠ 1 → p.t = [] := fun p hp hk => by
  have h1 := checkTo_fit L false (zero_len h).1 p hp
  unfold oneE at h1
  split at h1
  · cases h1
  · split at h1
    · cases h1
    · split at h1
      · cases h1
      · rename_i h2
        simpa [hk] using h2
def textR (L : List Part) : Tp.Bs × Int := if checkR L ≠ 0 then ([], checkR L) else (textP L, 0)
set_option maxRecDepth 100000 in
set_option maxHeartbeats 2000000 in
theorem Text_any (a : Option Addr) (c : Nat) (L : List Part) (w : World) (hP : Parts w a L.length L) (hn : L.length ≤ 100000) (hc : L.length ≤ c) (hcm : c ≤ maxLen) (ht : ∀ p ∈ L, p.t.length ≤ 100000) (hN : Nm w) :
    Calls Tryd.prog 22 #[.slice a L.length c] w fun e w' => e = .returned (.tuple #[.string (bs (textR L).1), .int .i64 (textR L).2]) ∧ Below w.heap.size w w' := by
  obtain ⟨O, hO⟩ : ∃ O, textR L = O := ⟨_, rfl⟩
  rw [hO]
  have HO := Lib.hid hO
  have hq := fun W h1 h2 => check_any a c L W h1 hn hc hcm ht h2
  have htx : checkR L = 0 → ∀ W, Parts W a L.length L → Nm W → _ := fun h0 W h1 h2 => text_any a c L W h1 hn (fun p hp => (one_fitX p (checkTo_fit L false (zero_len h0).1 p hp) (ht p hp)).w) h2
  have HTX := Lib.hid htx
  obtain ⟨E, hE⟩ : ∃ E, checkR L = E := ⟨_, rfl⟩
  rw [hE] at hq
  have HE := Lib.hid hE
  clear hO hE ht htx
  go_enter Tryd.func22, Tryd.ntmps22
  go_wp2_with fail
  refine (hq _ hP hN).mono ?_
  rintro e w1 ⟨rfl, h1⟩
  by_cases hz : E = 0
  · have hzb : (E != 0) = false := by simpa using hz
    have hx := HTX.out (HE.out.trans hz) w1 (Rd.below hP h1) (hN.below h1 hN.lt)
    have hO : O = (textP L, 0) := by rw [← HO.out]; unfold textR; rw [HE.out, if_neg (by simpa using hz)]
    have HOO := Lib.hid hO
    clear hz hO hP
    go_wp2_with fail
    refine hx.mono ?_
    rintro e w2 ⟨rfl, h2⟩
    go_wp2_with fail
    go_ret2
    exact ⟨by rw [HOO.out]; rfl, h1.trans (h2.mono h1.size)⟩
  · have hzb : (E != 0) = true := by simpa using hz
    have hO : O = ([], E) := by rw [← HO.out]; unfold textR; rw [HE.out, if_pos hz]
    have HOO := Lib.hid hO
    clear hz hO
    go_wp2_with fail
    go_ret2
    exact ⟨by rw [HOO.out]; rfl, h1⟩
set_option maxRecDepth 100000 in
set_option maxHeartbeats 2000000 in
theorem refTextE_any (a : Option Addr) (c : Nat) (L : List Part) (w : World) (hP : Parts w a L.length L) (hn : L.length ≤ 100000) (ht : ∀ p ∈ L, p.t.length ≤ 100000) :
    Calls Tryd.prog 23 #[.slice a L.length c] w fun e w' => e = .returned (.tuple #[.string (bs (textR L).1), .int .i64 (textR L).2]) ∧ Below w.heap.size w w' := by
  obtain ⟨O, hO⟩ : ∃ O, textR L = O := ⟨_, rfl⟩
  rw [hO]
  have HO := Lib.hid hO
  have hq := fun W h1 => refCheck_any a c L W h1 hn ht
  have htx : checkR L = 0 → ∀ W, Parts W a L.length L → _ := fun h0 W h1 => refText_any a c L W h1 hn (fun p hp => one_fitX p (checkTo_fit L false (zero_len h0).1 p hp) (ht p hp))
  have HTX := Lib.hid htx
  obtain ⟨E, hE⟩ : ∃ E, checkR L = E := ⟨_, rfl⟩
  rw [hE] at hq
  have HE := Lib.hid hE
  clear hO hE ht htx
  go_enter Tryd.func23, Tryd.ntmps23
  go_wp2_with fail
  refine (hq _ hP).mono ?_
  rintro e w1 ⟨rfl, h1⟩
  by_cases hz : E = 0
  · have hzb : (E != 0) = false := by simpa using hz
    have hx := HTX.out (HE.out.trans hz) w1 (Rd.below hP h1)
    have hO : O = (textP L, 0) := by rw [← HO.out]; unfold textR; rw [HE.out, if_neg (by simpa using hz)]
    have HOO := Lib.hid hO
    clear hz hO hP
    go_wp2_with fail
    refine hx.mono ?_
    rintro e w2 ⟨rfl, h2⟩
    go_wp2_with fail
    go_ret2
    exact ⟨by rw [HOO.out]; rfl, h1.trans (h2.mono h1.size)⟩
  · have hzb : (E != 0) = true := by simpa using hz
    have hO : O = ([], E) := by rw [← HO.out]; unfold textR; rw [HE.out, if_pos hz]
    have HOO := Lib.hid hO
    clear hz hO
    go_wp2_with fail
    go_ret2
    exact ⟨by rw [HOO.out]; rfl, h1⟩

def headT (L : List Part) : Tp.Bs := match L.head? with
  | some p => p.t
  | none => []
def lastT (L : List Part) : Tp.Bs := match L.getLast? with
  | some p => p.t
  | none => []
structure LR where
  f : Tp.Bs
  l : Tp.Bs
  n : Int
  e : Int
def litR (L : List Part) : LR := if checkR L ≠ 0 then ⟨[], [], 0, checkR L⟩ else ⟨headT L, lastT L, (bytesP L : Nat), 0⟩
theorem bytes_next (L : List Part) (k : Nat) (x : Part) (h : L[k]? = some x) : bytesP (L.take (k + 1)) = bytesP (L.take k) + x.t.length := by
  unfold bytesP
  rw [List.take_add_one, h]
  simp
theorem bytes_le (L : List Part) (h : ∀ p ∈ L, p.t.length ≤ 100000) : bytesP L ≤ L.length * 100000 := by
  induction L with
  | nil => simp [bytesP]
  | cons p L ih =>
    have h1 := h p (by simp)
    have h2 := ih (fun q hq => h q (by simp [hq]))
    unfold bytesP at h2 ⊢
    simp only [List.map_cons, List.sum_cons, List.length_cons]
    omega
set_option maxRecDepth 100000 in
set_option maxHeartbeats 4000000 in
theorem refLit_any (a : Option Addr) (c : Nat) (L : List Part) (w : World) (hP : Parts w a L.length L) (hn : L.length ≤ 100000) (ht : ∀ p ∈ L, p.t.length ≤ 100000) :
    Calls Tryd.prog 30 #[.slice a L.length c] w fun e w' => e = .returned (.tuple #[.string (bs (litR L).f), .string (bs (litR L).l), .int .i64 (litR L).n, .int .i64 (litR L).e]) ∧ Below w.heap.size w w' := by
  obtain ⟨O, hO⟩ : ∃ O, litR L = O := ⟨_, rfl⟩
  rw [hO]
  have HO := Lib.hid hO
  have hq := fun W h1 => refCheck_any a c L W h1 hn ht
  obtain ⟨E, hE⟩ : ∃ E, checkR L = E := ⟨_, rfl⟩
  rw [hE] at hq
  have HE := Lib.hid hE
  have HT := Lib.hid ht
  clear hO hE ht
  go_enter Tryd.func30, Tryd.ntmps30
  go_wp2_with fail
  refine (hq _ hP).mono ?_
  rintro e w1 ⟨rfl, h1⟩
  by_cases hz : ¬ E = 0
  · have hzb : (E != 0) = true := by simpa using hz
    have hO : O = ⟨[], [], 0, E⟩ := by rw [← HO.out]; unfold litR; rw [HE.out, if_pos hz]
    have HOO := Lib.hid hO
    clear hz hO
    go_wp2_with fail
    refine bodyPost_ret (v := .tuple #[.string ⟨#[]⟩, .string ⟨#[]⟩, .int .i64 0, .int .i64 E]) (by simp [results, Tryd.results30, go_sem]) rfl ⟨by rw [HOO.out] <;> rfl, h1⟩
  have hz0 : E = 0 := by omega
  subst hz0
  have hO : O = ⟨headT L, lastT L, (bytesP L : Nat), 0⟩ := by rw [← HO.out]; unfold litR; rw [HE.out, if_neg (by simp)]
  have HOO := Lib.hid hO
  clear hz hO
  by_cases hL0 : L = []
  · subst hL0
    go_wp2_with fail
    refine bodyPost_ret (v := .tuple #[.string ⟨#[]⟩, .string ⟨#[]⟩, .int .i64 0, .int .i64 0]) (by simp [results, Tryd.results30, go_sem]) rfl ⟨by rw [HOO.out] <;> rfl, h1⟩
  have hl0 : ((L.length : Int) == 0) = false := by
    rw [beq_eq_false_iff_ne]
    have := List.length_pos_iff.2 hL0
    omega
  have HL0 := Lib.hid hL0
  have hP1 : Parts w1 a L.length L := Rd.below hP h1
  have HP1 := Lib.hid hP1
  clear hL0 hP hP1 hq
  go_wp2_with fail
  go_loopg [7, 8] L.length (fun g s i wr => ∃ k : Nat, i = .int .i64 k ∧ k + g = L.length ∧ s = .int .i64 (bytesP (L.take k) : Nat) ∧ wr = w1)
  case atStart => exact ⟨0, rfl, by omega, rfl, rfl⟩
  case round =>
    obtain ⟨k, rfl, hk, rfl, rfl⟩ := hrel
    by_cases hlt : k < L.length
    · obtain ⟨g', rfl⟩ : ∃ g', gk = g' + 1 := ⟨gk - 1, by omega⟩
      obtain ⟨x, hx⟩ : ∃ x, L[k]? = some x := ⟨_, List.getElem?_eq_getElem hlt⟩
      obtain ⟨ad, rfl, had, g0, g1, g2⟩ := Parts.get (L := L) HP1.out k x hx
      have hb := bytes_le (L.take k) (fun p hp => HT.out p (List.mem_of_mem_take hp))
      have hb2 : (L.take k).length ≤ k := List.length_take_le _ _
      have hxt := HT.out x (List.mem_of_getElem? hx)
      have HNX := Lib.hid (bytes_next L k x hx)
      obtain ⟨T, hT⟩ : ∃ T, T = bs x.t := ⟨_, rfl⟩
      have hTz : T.size = x.t.length := by rw [hT, size_bs]
      rw [← hT] at g1
      have HTz := Lib.hid hTz
      have i0 : (0 : Int) ≤ (k : Int) := by omega
      have i1 : (k : Int) < (L.length : Int) := by omega
      obtain ⟨N, hN⟩ : ∃ N, bytesP (L.take k) = N := ⟨_, rfl⟩
      rw [hN] at hb ⊢
      have HNN := Lib.hid hN
      have hNb : N ≤ 10000000000 := by omega
      have hTb : T.size ≤ 100000 := by omega
      clear hx hT hTz hN hxt hb hb2
      go_wp2_with fail
      go_roundg g'
      case measure => omega
      case rel => exact ⟨k + 1, by go_num, by omega, by rw [HNX.out, HNN.out, ← HTz.out]; push_cast; rfl, rfl⟩
    · obtain rfl : k = L.length := by omega
      obtain ⟨t, y, hty⟩ : ∃ t y, L = t ++ [y] := by
        rcases List.eq_nil_or_concat L with h | ⟨t, y, h⟩
        · exact absurd h HL0.out
        · exact ⟨t, y, by simpa using h⟩
      obtain ⟨x, L', hxl⟩ : ∃ x L', L = x :: L' := by
        rcases hh : L with _ | ⟨x, L'⟩
        · exact absurd hh HL0.out
        · exact ⟨x, L', rfl⟩
      have hLn : L.length = t.length + 1 := by rw [hty]; simp
      obtain ⟨ad, had, hbk, g0, g1, g2⟩ := Parts.get (L := L) HP1.out 0 x (by rw [hxl]; rfl)
      subst had
      obtain ⟨ad2, had2, _, k0, k1, k2⟩ := Parts.get (L := L) HP1.out t.length y (by rw [hty]; simp)
      cases had2
      have e0 : ad.add (0 * 3) = ad := by unfold Addr.add; simp
      rw [e0] at g1
      have hh1 : headT L = x.t := by rw [hxl]; rfl
      have hh2 : lastT L = y.t := by unfold lastT; rw [hty]; simp
      have HH1 := Lib.hid hh1
      have HH2 := Lib.hid hh2
      have j0 : (0 : Int) ≤ (L.length : Int) - 1 := by omega
      have j1 : (L.length : Int) - 1 < (L.length : Int) := by omega
      have j2 : ((L.length : Int) - 1).toNat = t.length := by omega
      have j3 : (1 : Int) ≤ (L.length : Int) := by omega
      have j4 : (0 : Int) < (L.length : Int) := by omega
      rw [List.take_length]
      clear hty hxl hLn hh1 hh2 g0 g2 k0 k2 e0
      go_wp2_with fail
      go_quiet (fail)
      go_wp2_with fail
      refine bodyPost_ret (v := .tuple #[.string (bs x.t), .string (bs y.t), .int .i64 (bytesP L : Nat), .int .i64 0]) (by simp [results, Tryd.results30, go_sem]) rfl ⟨by rw [HOO.out, ← HH1.out, ← HH2.out] <;> rfl, below_drewN h1 _⟩

set_option maxRecDepth 100000 in
set_option maxHeartbeats 4000000 in
theorem Lit_any (a : Option Addr) (c : Nat) (L : List Part) (w : World) (hP : Parts w a L.length L) (hn : L.length ≤ 100000) (hc : L.length ≤ c) (hcm : c ≤ maxLen) (ht : ∀ p ∈ L, p.t.length ≤ 100000) (hN : Nm w) :
    Calls Tryd.prog 29 #[.slice a L.length c] w fun e w' => e = .returned (.tuple #[.string (bs (litR L).f), .string (bs (litR L).l), .int .i64 (litR L).n, .int .i64 (litR L).e]) ∧ Below w.heap.size w w' := by
  obtain ⟨O, hO⟩ : ∃ O, litR L = O := ⟨_, rfl⟩
  rw [hO]
  have HO := Lib.hid hO
  have hq := fun W h1 h2 => check_any a c L W h1 hn hc hcm ht h2
  have hla := fun W h1 => last_any a c L W h1 (by omega)
  have hzl : checkR L = 0 → _ := fun h => zero_lit h
  have HZL := Lib.hid hzl
  obtain ⟨E, hE⟩ : ∃ E, checkR L = E := ⟨_, rfl⟩
  rw [hE] at hq
  have HE := Lib.hid hE
  have HT := Lib.hid ht
  clear hO hE ht hzl
  go_enter Tryd.func29, Tryd.ntmps29
  go_wp2_with fail
  refine (hq _ hP hN).mono ?_
  rintro e w1 ⟨rfl, h1⟩
  by_cases hz : ¬ E = 0
  · have hzb : (E != 0) = true := by simpa using hz
    have hO : O = ⟨[], [], 0, E⟩ := by rw [← HO.out]; unfold litR; rw [HE.out, if_pos hz]
    have HOO := Lib.hid hO
    clear hz hO
    go_wp2_with fail
    refine bodyPost_ret (v := .tuple #[.string ⟨#[]⟩, .string ⟨#[]⟩, .int .i64 0, .int .i64 E]) (by simp [results, Tryd.results29, go_sem]) rfl ⟨by rw [HOO.out] <;> rfl, h1⟩
  have hz0 : E = 0 := by omega
  subst hz0
  have hO : O = ⟨headT L, lastT L, (bytesP L : Nat), 0⟩ := by rw [← HO.out]; unfold litR; rw [HE.out, if_neg (by simp)]
  have HOO := Lib.hid hO
  have hP1 : Parts w1 a L.length L := Rd.below hP h1
  have HP1 := Lib.hid hP1
  clear hz hO hP hP1 hq
  go_wp2_with fail
  refine (hla _ HP1.out).mono ?_
  rintro e w2 ⟨rfl, h2⟩
  have b2 := h1.trans (h2.mono h1.size)
  have hP2 : Parts w2 a L.length L := Rd.below HP1.out h2
  have HP2 := Lib.hid hP2
  clear HP1 h2 h1 hla hP2
  by_cases hL0 : L = []
  · have hlv : lastV a L = .pointer none := by rw [hL0]; rfl
    rw [hlv]
    have hh1 : headT L = [] := by rw [hL0]; rfl
    have hh2 : lastT L = [] := by rw [hL0]; rfl
    have HH1 := Lib.hid hh1
    have HH2 := Lib.hid hh2
    have j4 : decide (0 < L.length) = false := by rw [hL0]; rfl
    have b3 := b2
    have HP3 := HP2
    clear hlv hh1 hh2 hL0 b2 HP2
    go_wp2_with fail
    go_loopg [4, 38] L.length (fun g s i wr => ∃ k : Nat, i = .int .i64 k ∧ k + g = L.length ∧ s = .int .i64 (bytesP (L.take k) : Nat) ∧ Below w.heap.size w wr ∧ Parts wr a L.length L)
    case atStart => exact ⟨0, rfl, by omega, rfl, b3, HP3.out⟩
    case round =>
      obtain ⟨k, rfl, hk, rfl, hbl, hPr⟩ := hrel
      have HPr := Lib.hid hPr
      clear hPr
      by_cases hlt : k < L.length
      · obtain ⟨g', rfl⟩ : ∃ g', gk = g' + 1 := ⟨gk - 1, by omega⟩
        obtain ⟨x9, hx⟩ : ∃ x, L[k]? = some x := ⟨_, List.getElem?_eq_getElem hlt⟩
        obtain ⟨ad9, had9, hd9, q0, q1, q2⟩ := Parts.get (L := L) HPr.out k x9 hx
        have hb := bytes_le (L.take k) (fun p hp => HT.out p (List.mem_of_mem_take hp))
        have hb2 : (L.take k).length ≤ k := List.length_take_le _ _
        have hxt := HT.out x9 (List.mem_of_getElem? hx)
        have HNX := Lib.hid (bytes_next L k x9 hx)
        obtain ⟨T, hT⟩ : ∃ T, T = bs x9.t := ⟨_, rfl⟩
        have hTz : T.size = x9.t.length := by rw [hT, size_bs]
        rw [← hT] at q1
        have HTz := Lib.hid hTz
        have i0 : (0 : Int) ≤ (k : Int) := by omega
        have i1 : (k : Int) < (L.length : Int) := by omega
        obtain ⟨N, hN⟩ : ∃ N, bytesP (L.take k) = N := ⟨_, rfl⟩
        rw [hN] at hb ⊢
        have HNN := Lib.hid hN
        have hNb : N ≤ 10000000000 := by omega
        have hTb : T.size ≤ 100000 := by omega
        have hb9 := hbl.alloc hbl.size (.cells #[.int .i64 x9.k, .string T, .int .i64 x9.n] 59)
        have HP9 := Lib.hid (Rd.alloc HPr.out (.cells #[.int .i64 x9.k, .string T, .int .i64 x9.n] 59))
        subst had9
        clear hx hT hTz hN hxt hb hb2
        go_wp2_with fail
        go_roundg g'
        case measure => omega
        case rel => exact ⟨k + 1, by go_num, by omega, by rw [HNX.out, HNN.out, ← HTz.out]; push_cast; rfl, hb9, HP9.out⟩
      · obtain rfl : k = L.length := by omega
        rw [List.take_length]
        go_wp2_with fail
        refine bodyPost_ret (v := .tuple #[.string ⟨#[]⟩, .string ⟨#[]⟩, .int .i64 (bytesP L : Nat), .int .i64 0]) (by simp [results, Tryd.results29, go_sem]) rfl ⟨by rw [HOO.out, HH1.out, HH2.out] <;> rfl, hbl⟩
  obtain ⟨t, y, hty⟩ : ∃ t y, L = t ++ [y] := by
    rcases List.eq_nil_or_concat L with h | ⟨t, y, h⟩
    · exact absurd h hL0
    · exact ⟨t, y, by simpa using h⟩
  obtain ⟨x, L', hxl⟩ : ∃ x L', L = x :: L' := by
    rcases hh : L with _ | ⟨x, L'⟩
    · exact absurd hh hL0
    · exact ⟨x, L', rfl⟩
  have hLn : L.length = t.length + 1 := by rw [hty]; simp
  obtain ⟨ad, had, hbk, g0, g1, g2⟩ := Parts.get (L := L) HP2.out 0 x (by rw [hxl]; rfl)
  subst had
  obtain ⟨ad2, had2, _, k0, k1, k2⟩ := Parts.get (L := L) HP2.out t.length y (by rw [hty]; simp)
  cases had2
  have e0 : ad.add (0 * 3) = ad := by unfold Addr.add; simp
  rw [e0] at g0 g1 g2
  have hh1 : headT L = x.t := by rw [hxl]; rfl
  have hh2 : lastT L = y.t := by unfold lastT; rw [hty]; simp
  have HH1 := Lib.hid hh1
  have HH2 := Lib.hid hh2
  have hxz := HZL.out HE.out x (by rw [hxl]; simp)
  have hyz := HZL.out HE.out y (by rw [hty]; simp)
  have HXZ := Lib.hid hxz
  have HYZ := Lib.hid hyz
  have hlv : lastV (some ad) L = if y.k = 1 then .pointer (some (ad.add (t.length * 3))) else .pointer none := by
    unfold lastV
    rw [hty]
    simp
  have hgl : L.getLast? = some y := by rw [hty]; simp
  rw [hlv]
  have j4 : decide (0 < L.length) = true := decide_eq_true (by omega)
  have j5 : (0 : Int) < (L.length : Int) := by omega
  have hli := fun W => literal_any x W
  unfold pv at hli
  clear hty hxl hLn hh1 hh2 k0 k2 e0 hxz hyz hlv hgl hL0
  by_cases hy : y.k = 1
  · rw [if_pos hy]
    clear hy
    go_wp2_with fail
    refine (hli _).mono ?_
    rintro e w3 ⟨rfl, h3⟩
    have b3 := b2.trans (h3.mono b2.size)
    have HP3 := Lib.hid (Rd.below HP2.out h3)
    have g1' : w3.cell? ⟨ad.block, ad.off + 1, none⟩ = some (.string (bs x.t)) := by rw [← g1]; exact World.cell?_of_block (w := w2) (h3.block _ hbk)
    clear g0 g1 g2 k1 h3 hli b2 HP2
    rcases hxk : (x.k == 1) with _ | _
    · have HX0 := Lib.hid (HXZ.out (by simpa using hxk))
      clear hxk
      go_wp2_with fail
      go_loopg [4, 38] L.length (fun g s i wr => ∃ k : Nat, i = .int .i64 k ∧ k + g = L.length ∧ s = .int .i64 (bytesP (L.take k) : Nat) ∧ Below w.heap.size w wr ∧ Parts wr (some ad) L.length L)
      case atStart => exact ⟨0, rfl, by omega, rfl, b3, HP3.out⟩
      case round =>
        obtain ⟨k, rfl, hk, rfl, hbl, hPr⟩ := hrel
        have HPr := Lib.hid hPr
        clear hPr
        by_cases hlt : k < L.length
        · obtain ⟨g', rfl⟩ : ∃ g', gk = g' + 1 := ⟨gk - 1, by omega⟩
          obtain ⟨x9, hx⟩ : ∃ x, L[k]? = some x := ⟨_, List.getElem?_eq_getElem hlt⟩
          obtain ⟨ad9, had9, hd9, q0, q1, q2⟩ := Parts.get (L := L) HPr.out k x9 hx
          have hb := bytes_le (L.take k) (fun p hp => HT.out p (List.mem_of_mem_take hp))
          have hb2 : (L.take k).length ≤ k := List.length_take_le _ _
          have hxt := HT.out x9 (List.mem_of_getElem? hx)
          have HNX := Lib.hid (bytes_next L k x9 hx)
          obtain ⟨T, hT⟩ : ∃ T, T = bs x9.t := ⟨_, rfl⟩
          have hTz : T.size = x9.t.length := by rw [hT, size_bs]
          rw [← hT] at q1
          have HTz := Lib.hid hTz
          have i0 : (0 : Int) ≤ (k : Int) := by omega
          have i1 : (k : Int) < (L.length : Int) := by omega
          obtain ⟨N, hN⟩ : ∃ N, bytesP (L.take k) = N := ⟨_, rfl⟩
          rw [hN] at hb ⊢
          have HNN := Lib.hid hN
          have hNb : N ≤ 10000000000 := by omega
          have hTb : T.size ≤ 100000 := by omega
          have hb9 := hbl.alloc hbl.size (.cells #[.int .i64 x9.k, .string T, .int .i64 x9.n] 59)
          have HP9 := Lib.hid (Rd.alloc HPr.out (.cells #[.int .i64 x9.k, .string T, .int .i64 x9.n] 59))
          cases had9
          clear hx hT hTz hN hxt hb hb2
          go_wp2_with fail
          go_roundg g'
          case measure => omega
          case rel => exact ⟨k + 1, by go_num, by omega, by rw [HNX.out, HNN.out, ← HTz.out]; push_cast; rfl, hb9, HP9.out⟩
        · obtain rfl : k = L.length := by omega
          rw [List.take_length]
          go_wp2_with fail
          refine bodyPost_ret (v := .tuple #[.string ⟨#[]⟩, .string (bs y.t), .int .i64 (bytesP L : Nat), .int .i64 0]) (by simp [results, Tryd.results29, go_sem]) rfl ⟨by rw [HOO.out, HH1.out, HX0.out, HH2.out] <;> rfl, hbl⟩
    · clear hxk
      go_wp2_with fail
      go_loopg [4, 38] L.length (fun g s i wr => ∃ k : Nat, i = .int .i64 k ∧ k + g = L.length ∧ s = .int .i64 (bytesP (L.take k) : Nat) ∧ Below w.heap.size w wr ∧ Parts wr (some ad) L.length L)
      case atStart => exact ⟨0, rfl, by omega, rfl, b3, HP3.out⟩
      case round =>
        obtain ⟨k, rfl, hk, rfl, hbl, hPr⟩ := hrel
        have HPr := Lib.hid hPr
        clear hPr
        by_cases hlt : k < L.length
        · obtain ⟨g', rfl⟩ : ∃ g', gk = g' + 1 := ⟨gk - 1, by omega⟩
          obtain ⟨x9, hx⟩ : ∃ x, L[k]? = some x := ⟨_, List.getElem?_eq_getElem hlt⟩
          obtain ⟨ad9, had9, hd9, q0, q1, q2⟩ := Parts.get (L := L) HPr.out k x9 hx
          have hb := bytes_le (L.take k) (fun p hp => HT.out p (List.mem_of_mem_take hp))
          have hb2 : (L.take k).length ≤ k := List.length_take_le _ _
          have hxt := HT.out x9 (List.mem_of_getElem? hx)
          have HNX := Lib.hid (bytes_next L k x9 hx)
          obtain ⟨T, hT⟩ : ∃ T, T = bs x9.t := ⟨_, rfl⟩
          have hTz : T.size = x9.t.length := by rw [hT, size_bs]
          rw [← hT] at q1
          have HTz := Lib.hid hTz
          have i0 : (0 : Int) ≤ (k : Int) := by omega
          have i1 : (k : Int) < (L.length : Int) := by omega
          obtain ⟨N, hN⟩ : ∃ N, bytesP (L.take k) = N := ⟨_, rfl⟩
          rw [hN] at hb ⊢
          have HNN := Lib.hid hN
          have hNb : N ≤ 10000000000 := by omega
          have hTb : T.size ≤ 100000 := by omega
          have hb9 := hbl.alloc hbl.size (.cells #[.int .i64 x9.k, .string T, .int .i64 x9.n] 59)
          have HP9 := Lib.hid (Rd.alloc HPr.out (.cells #[.int .i64 x9.k, .string T, .int .i64 x9.n] 59))
          cases had9
          clear hx hT hTz hN hxt hb hb2
          go_wp2_with fail
          go_roundg g'
          case measure => omega
          case rel => exact ⟨k + 1, by go_num, by omega, by rw [HNX.out, HNN.out, ← HTz.out]; push_cast; rfl, hb9, HP9.out⟩
        · obtain rfl : k = L.length := by omega
          rw [List.take_length]
          go_wp2_with fail
          refine bodyPost_ret (v := .tuple #[.string (bs x.t), .string (bs y.t), .int .i64 (bytesP L : Nat), .int .i64 0]) (by simp [results, Tryd.results29, go_sem]) rfl ⟨by rw [HOO.out, HH1.out, HH2.out] <;> rfl, hbl⟩
  · rw [if_neg hy]
    have HY0 := Lib.hid (HYZ.out hy)
    clear hy
    go_wp2_with fail
    refine (hli _).mono ?_
    rintro e w3 ⟨rfl, h3⟩
    have b3 := b2.trans (h3.mono b2.size)
    have HP3 := Lib.hid (Rd.below HP2.out h3)
    have g1' : w3.cell? ⟨ad.block, ad.off + 1, none⟩ = some (.string (bs x.t)) := by rw [← g1]; exact World.cell?_of_block (w := w2) (h3.block _ hbk)
    clear g0 g1 g2 k1 h3 hli b2 HP2
    rcases hxk : (x.k == 1) with _ | _
    · have HX0 := Lib.hid (HXZ.out (by simpa using hxk))
      clear hxk
      go_wp2_with fail
      go_loopg [4, 38] L.length (fun g s i wr => ∃ k : Nat, i = .int .i64 k ∧ k + g = L.length ∧ s = .int .i64 (bytesP (L.take k) : Nat) ∧ Below w.heap.size w wr ∧ Parts wr (some ad) L.length L)
      case atStart => exact ⟨0, rfl, by omega, rfl, b3, HP3.out⟩
      case round =>
        obtain ⟨k, rfl, hk, rfl, hbl, hPr⟩ := hrel
        have HPr := Lib.hid hPr
        clear hPr
        by_cases hlt : k < L.length
        · obtain ⟨g', rfl⟩ : ∃ g', gk = g' + 1 := ⟨gk - 1, by omega⟩
          obtain ⟨x9, hx⟩ : ∃ x, L[k]? = some x := ⟨_, List.getElem?_eq_getElem hlt⟩
          obtain ⟨ad9, had9, hd9, q0, q1, q2⟩ := Parts.get (L := L) HPr.out k x9 hx
          have hb := bytes_le (L.take k) (fun p hp => HT.out p (List.mem_of_mem_take hp))
          have hb2 : (L.take k).length ≤ k := List.length_take_le _ _
          have hxt := HT.out x9 (List.mem_of_getElem? hx)
          have HNX := Lib.hid (bytes_next L k x9 hx)
          obtain ⟨T, hT⟩ : ∃ T, T = bs x9.t := ⟨_, rfl⟩
          have hTz : T.size = x9.t.length := by rw [hT, size_bs]
          rw [← hT] at q1
          have HTz := Lib.hid hTz
          have i0 : (0 : Int) ≤ (k : Int) := by omega
          have i1 : (k : Int) < (L.length : Int) := by omega
          obtain ⟨N, hN⟩ : ∃ N, bytesP (L.take k) = N := ⟨_, rfl⟩
          rw [hN] at hb ⊢
          have HNN := Lib.hid hN
          have hNb : N ≤ 10000000000 := by omega
          have hTb : T.size ≤ 100000 := by omega
          have hb9 := hbl.alloc hbl.size (.cells #[.int .i64 x9.k, .string T, .int .i64 x9.n] 59)
          have HP9 := Lib.hid (Rd.alloc HPr.out (.cells #[.int .i64 x9.k, .string T, .int .i64 x9.n] 59))
          cases had9
          clear hx hT hTz hN hxt hb hb2
          go_wp2_with fail
          go_roundg g'
          case measure => omega
          case rel => exact ⟨k + 1, by go_num, by omega, by rw [HNX.out, HNN.out, ← HTz.out]; push_cast; rfl, hb9, HP9.out⟩
        · obtain rfl : k = L.length := by omega
          rw [List.take_length]
          go_wp2_with fail
          refine bodyPost_ret (v := .tuple #[.string ⟨#[]⟩, .string ⟨#[]⟩, .int .i64 (bytesP L : Nat), .int .i64 0]) (by simp [results, Tryd.results29, go_sem]) rfl ⟨by rw [HOO.out, HH1.out, HX0.out, HH2.out, HY0.out] <;> rfl, hbl⟩
    · clear hxk
      go_wp2_with fail
      go_loopg [4, 38] L.length (fun g s i wr => ∃ k : Nat, i = .int .i64 k ∧ k + g = L.length ∧ s = .int .i64 (bytesP (L.take k) : Nat) ∧ Below w.heap.size w wr ∧ Parts wr (some ad) L.length L)
      case atStart => exact ⟨0, rfl, by omega, rfl, b3, HP3.out⟩
      case round =>
        obtain ⟨k, rfl, hk, rfl, hbl, hPr⟩ := hrel
        have HPr := Lib.hid hPr
        clear hPr
        by_cases hlt : k < L.length
        · obtain ⟨g', rfl⟩ : ∃ g', gk = g' + 1 := ⟨gk - 1, by omega⟩
          obtain ⟨x9, hx⟩ : ∃ x, L[k]? = some x := ⟨_, List.getElem?_eq_getElem hlt⟩
          obtain ⟨ad9, had9, hd9, q0, q1, q2⟩ := Parts.get (L := L) HPr.out k x9 hx
          have hb := bytes_le (L.take k) (fun p hp => HT.out p (List.mem_of_mem_take hp))
          have hb2 : (L.take k).length ≤ k := List.length_take_le _ _
          have hxt := HT.out x9 (List.mem_of_getElem? hx)
          have HNX := Lib.hid (bytes_next L k x9 hx)
          obtain ⟨T, hT⟩ : ∃ T, T = bs x9.t := ⟨_, rfl⟩
          have hTz : T.size = x9.t.length := by rw [hT, size_bs]
          rw [← hT] at q1
          have HTz := Lib.hid hTz
          have i0 : (0 : Int) ≤ (k : Int) := by omega
          have i1 : (k : Int) < (L.length : Int) := by omega
          obtain ⟨N, hN⟩ : ∃ N, bytesP (L.take k) = N := ⟨_, rfl⟩
          rw [hN] at hb ⊢
          have HNN := Lib.hid hN
          have hNb : N ≤ 10000000000 := by omega
          have hTb : T.size ≤ 100000 := by omega
          have hb9 := hbl.alloc hbl.size (.cells #[.int .i64 x9.k, .string T, .int .i64 x9.n] 59)
          have HP9 := Lib.hid (Rd.alloc HPr.out (.cells #[.int .i64 x9.k, .string T, .int .i64 x9.n] 59))
          cases had9
          clear hx hT hTz hN hxt hb hb2
          go_wp2_with fail
          go_roundg g'
          case measure => omega
          case rel => exact ⟨k + 1, by go_num, by omega, by rw [HNX.out, HNN.out, ← HTz.out]; push_cast; rfl, hb9, HP9.out⟩
        · obtain rfl : k = L.length := by omega
          rw [List.take_length]
          go_wp2_with fail
          refine bodyPost_ret (v := .tuple #[.string (bs x.t), .string ⟨#[]⟩, .int .i64 (bytesP L : Nat), .int .i64 0]) (by simp [results, Tryd.results29, go_sem]) rfl ⟨by rw [HOO.out, HH1.out, HH2.out, HY0.out] <;> rfl, hbl⟩
end Go.Proofs.YtllklgalghmnfaaDoor
