/- The law LineLimits, walked. -/
import Derived.Test.YteppipkokeaijaaLawLineBack
namespace Go.Proofs.Yteppipkokeaijaa
open Go.RowKit Str Mem
set_option linter.unusedVariables false
set_option linter.unusedSimpArgs false

theorem get_bs {s : List UInt8} {k : Nat} {x : UInt8} (h : s[k]? = some x) (hk : k < (bs s).size) : (bs s)[k] = x := by
  rw [get_data _ k hk]
  have := (List.getElem?_eq_some_iff.1 h).2
  simpa [data_bs] using this
theorem scan_next {s : List UInt8} {k : Nat} {x : UInt8} (h : s[k]? = some x) : (s.take (k + 1)).foldl Ln.scanStep (0, 0) = Ln.scanStep ((s.take k).foldl Ln.scanStep (0, 0)) x := by
  rw [List.take_add_one, h, List.foldl_append]; rfl
theorem byte_eq {x : UInt8} {c : Nat} (hc : c < 256) : ((x.toNat : Int) == (c : Int)) = decide (x = c.toUInt8) := by
  by_cases h : x = c.toUInt8
  · subst h
    have e : (c.toUInt8).toNat = c := by simp; omega
    rw [e]; simp
  · have : x.toNat ≠ c := fun e => h (by rw [← e]; simp)
    have e1 : ((x.toNat : Int) == (c : Int)) = false := by rw [beq_eq_false_iff_ne]; omega
    rw [e1]; simp [h]

/-- The scan's slots. -/
def ScanI (s : List UInt8) (w : World) (g : Nat) (s6 s7 s8 : Value) (wr : World) : Prop :=
  ∃ (k x y : Nat), s8 = .int .i64 k ∧ k + g = s.length ∧ (s.take k).foldl Ln.scanStep (0, 0) = (x, y) ∧ s7 = .int .i64 x ∧ s6 = .int .i64 y ∧ x ≤ k ∧ y ≤ k ∧ wr = w
def BackI (ps : List (List UInt8)) (w : World) (g : Nat) (s12 s13 : Value) (wr : World) : Prop :=
  ∃ k : Nat, s13 = .int .i64 k ∧ k + g = ps.length ∧ s12 = .string (bs (Ln.back (ps.take k))) ∧ wr = w
theorem back_take {ps : List (List UInt8)} {k : Nat} {p : List UInt8} (h : ps[k]? = some p) : Ln.back (ps.take (k + 1)) = Ln.back (ps.take k) ++ (p ++ [10]) := by
  rw [List.take_add_one, h]; exact Ln.back_snoc _ _
theorem back_split2 {ps : List (List UInt8)} {k : Nat} {p : List UInt8} (h : ps[k]? = some p) (U : List UInt8) : Ln.back ps ++ U = Ln.back (ps.take k) ++ (p ++ [10]) ++ (Ln.back (ps.drop (k + 1)) ++ U) := by
  have hk := (List.getElem?_eq_some_iff.1 h)
  have e : ps = ps.take k ++ p :: ps.drop (k + 1) := by
    obtain ⟨h1, h2⟩ := hk
    rw [← h2]; simp
  conv => lhs; rw [e]
  simp [Ln.back]

set_option maxRecDepth 100000 in
set_option maxHeartbeats 4000000 in
theorem lawLimits_any (s : List UInt8) (limit : Int) (w : World) (hs : s.length ≤ maxLen) :
    Calls Try.prog 4 #[.string (bs s), .int .i64 limit] w fun e w' => e = .returned (.bool true) ∧ Below w.heap.size w w' := by
  have hsz : (bs s).size = s.length := size_bs s
  unfold maxLen at hs
  by_cases h1 : 300 < s.length
  · have k1 : (300 : Int) < ((bs s).size : Int) := by omega
    go_enter Try.func4, Try.ntmps4
    go_wp2_with fail
    refine (awake07_any _).mono ?_
    rintro e w1 ⟨rfl, g1⟩
    go_wp2_with fail
    go_ret
    exact ⟨rfl, g1⟩
  have k1 : ¬ (300 : Int) < ((bs s).size : Int) := by omega
  have hmod := fun W => kitMod_any limit 100 W (by omega) (by omega)
  have m1 := Int.emod_lt_of_pos limit (show (0 : Int) < 100 by omega)
  have m2 := Int.emod_nonneg limit (show (100 : Int) ≠ 0 by omega)
  obtain ⟨n, hn⟩ : ∃ n : Nat, limit % 100 = (n : Int) := ⟨(limit % 100).toNat, by omega⟩
  rw [hn] at hmod m1 m2
  have hnr : newR ((1 + n : Nat) : Int) = (((1 + n : Nat) : Int), 0) := by unfold newR; rw [if_neg (by omega)]
  have hlong := Ln.feed_long (lim := 1 + n) s [] 0 (by simp) (by omega)
  have hpc := Ln.feed_pieces (lim := 1 + n) s [] (by simp) rfl
  have hsp := fun W => (split_any s ((1 + n : Nat) : Int) W (by omega)).mono (fun e w' h => split_u h)
  have hsv : splitR ((1 + n : Nat) : Int) s = if (Ln.feed (1 + n) [] s).1.2 = true then ⟨[], ⟨#[]⟩, 4⟩ else ⟨(Ln.feed (1 + n) [] s).2, bs (Ln.feed (1 + n) [] s).1.1, 0⟩ := by
    unfold splitR
    rw [hnr, if_neg (by simp), Int.toNat_natCast]
  rw [hsv] at hsp
  have hnc : ((1 + n : Nat) : Int) = 1 + (n : Int) := by omega
  rw [hnc] at hsp
  simp only [List.length_nil] at hlong
  have HL := Lib.hid hlong
  have HP := Lib.hid hpc
  have HSP := Lib.hid hsp
  clear hn hnr hsv hnc hlong hpc hsp
  obtain ⟨B, hB⟩ : ∃ B, B = bs s := ⟨_, rfl⟩
  rw [← hB] at hsz k1 ⊢
  have HB := Lib.hid hB
  have HZ := Lib.hid hsz
  have hB3 : B.size ≤ 300 := by omega
  clear hB hsz
  go_enter Try.func4, Try.ntmps4
  go_wp2_with fail
  refine (hmod _).mono ?_
  rintro e w1 ⟨rfl, rfl⟩
  go_wp2_with fail
  go_loopg [6, 7, 8] s.length (fun g s6 s7 s8 wr => ScanI s w g s6 s7 s8 wr)
  case atStart => exact ⟨0, 0, 0, rfl, by omega, rfl, rfl, rfl, by omega, by omega, rfl⟩
  case round =>
    obtain ⟨k, x, y, rfl, hk, hsc, rfl, rfl, hx, hy, rfl⟩ := hrel
    have HS := Lib.hid hsc
    clear hsc
    by_cases hlt : k < s.length
    · obtain ⟨g', rfl⟩ : ∃ g', gk = g' + 1 := ⟨gk - 1, by omega⟩
      obtain ⟨b, hb⟩ : ∃ b, s[k]? = some b := ⟨_, List.getElem?_eq_getElem hlt⟩
      have hkB : k < B.size := by rw [HZ.out]; exact hlt
      have hkB2 : (k : Int) < (B.size : Int) := by omega
      have hBk : B[k] = b := by
        have h := HB.out
        subst h
        exact get_bs hb hkB
      have HN := Lib.hid (scan_next hb)
      by_cases h10 : b = 10
      · have hz : ((B[k].toNat : Int) == 10) = true := by rw [hBk, h10]; rfl
        clear hBk hb
        go_wp2_with fail
        go_roundg g'
        case measure => omega
        case rel => exact ⟨k + 1, 0, y, by go_num, by omega, by rw [HN.out, HS.out, h10]; rfl, rfl, rfl, by omega, by omega, rfl⟩
      · have hz : ((B[k].toNat : Int) == 10) = false := by
          rw [hBk]
          have := byte_eq (x := b) (c := 10) (by omega)
          exact this.trans (by simpa using h10)
        clear hBk hb
        go_wp2_with fail
        go_roundg g'
        case measure => omega
        case rel =>
          refine ⟨k + 1, x + 1, max y (x + 1), by go_num, by omega, by rw [HN.out, HS.out, Ln.scanStep_other _ h10], by go_num, ?_, by omega, by omega, rfl⟩
          first | rfl | (congr 1; omega)
    · obtain rfl : k = s.length := by omega
      have hsc : s.foldl Ln.scanStep (0, 0) = (x, y) := by have := HS.out; rwa [List.take_length] at this
      have hlong := HL.out
      simp only [hsc] at hlong
      have hnk : ¬ (s.length : Int) < (B.size : Int) := by have := HZ.out; omega
      have hspB := HSP.out
      rw [← HB.out] at hspB
      have HSP := Lib.hid hspB
      clear hspB
      go_wp2_with fail
      by_cases hy2 : 1 + n < y
      · have hsp := HSP.out
        rw [hlong, if_pos (by simpa using hy2)] at hsp
        have q1 : 1 + (n : Int) < (y : Int) := by omega
        clear hlong hsc
        refine (hsp _).mono ?_
        rintro e w2 ⟨a2, c2, rfl, hL2, h2⟩
        clear hsp
        go_wp2_with fail
        refine (awake07_any _).mono ?_
        rintro e w3 ⟨rfl, g3⟩
        go_wp2_with fail
        go_ret
        exact ⟨rfl, h2.trans (g3.mono h2.size)⟩
      · have hl0 : (Ln.feed (1 + n) [] s).1.2 = false := by rw [hlong]; simpa using hy2
        obtain ⟨ps, e1, e2, e3⟩ := HP.out hl0
        have hsp := HSP.out
        rw [if_neg (by rw [hl0]; simp), e2] at hsp
        obtain ⟨U, hU⟩ : ∃ U, (Ln.feed (1 + n) [] s).1.1 = U := ⟨_, rfl⟩
        rw [hU] at hsp e1
        have q1 : ¬ 1 + (n : Int) < (y : Int) := by omega
        rw [List.nil_append] at e1
        have E1 := Lib.hid e1
        have E3 := Lib.hid e3
        have hps : ps.length ≤ 300 := by
          have := Ln.feed_count (lim := 1 + n) s []
          rw [e2, List.length_map] at this
          omega
        clear hlong hsc hl0 e1 e2 e3 hU
        refine (hsp _).mono ?_
        rintro e w2 ⟨a2, c2, rfl, hL2, h2⟩
        have hml : (ps.map Ln.mk).length = ps.length := List.length_map _
        simp only [] at hL2
        have HL2 := Lib.hid hL2
        clear hsp hL2
        rw [hml]
        clear hml
        go_wp2_with fail
        go_loopg [12, 13] ps.length (fun g s12 s13 wr => BackI ps w2 g s12 s13 wr)
        case atStart => exact ⟨0, rfl, by omega, rfl, rfl⟩
        case round =>
          obtain ⟨j, rfl, hj, rfl, rfl⟩ := hrel
          obtain ⟨X, hX⟩ : ∃ X, X = bs (Ln.back (ps.take j)) := ⟨_, rfl⟩
          rw [← hX]
          have HX := Lib.hid hX
          have hXz : X.size = (Ln.back (ps.take j)).length := by rw [hX, size_bs]
          clear hX
          by_cases hjt : j < ps.length
          · obtain ⟨g', rfl⟩ : ∃ g', gk = g' + 1 := ⟨gk - 1, by omega⟩
            obtain ⟨p, hp⟩ : ∃ p, ps[j]? = some p := ⟨_, List.getElem?_eq_getElem hjt⟩
            have hpl : p.length ≤ 1 + n := (E3.out p (List.mem_of_getElem? hp)).1
            have hmk := Ln.mk_next p (Ln.back (ps.take j)) (Ln.back (ps.drop (j + 1)) ++ U)
            rw [← back_split2 hp U, ← E1.out] at hmk
            simp only [] at hmk
            obtain ⟨z1, z2, z3⟩ := hmk
            have hpm : (Ln.mk p).1.length ≤ p.length := Ln.mk_len p
            have hLj : (ps.map Ln.mk)[j]? = some (Ln.mk p) := by rw [List.getElem?_map, hp]; rfl
            obtain ⟨ad, rfl, hadb, g0, g1⟩ := Lines.get HL2.out j _ hLj
            have HN := Lib.hid (back_take hp)
            obtain ⟨⟨t, gd⟩, htg⟩ : ∃ tg, Ln.mk p = tg := ⟨_, rfl⟩
            rw [htg] at z1 z2 z3 hpm g0 g1
            simp only [] at z1 z2 z3 hpm g0 g1
            have hXs : X.size ≤ 300 := by have := HZ.out; omega
            obtain ⟨Y, hY⟩ : ∃ Y, Y = bs t := ⟨_, rfl⟩
            rw [← hY] at g0
            have htz : Y.size = t.length := by rw [hY, size_bs]
            have hYs : Y.size ≤ 300 := by have := HZ.out; omega
            have HY := Lib.hid hY
            clear hY
            have hq0 : X.size + Y.size < B.size := by have := HZ.out; omega
            have hq1 : (X.size : Int) + (Y.size : Int) < (B.size : Int) := by omega
            have hBq : ∀ c, s[(Ln.back (ps.take j)).length + t.length]? = some c → B[X.size + Y.size] = c := fun c hc => by
              have h := HB.out
              subst h
              exact get_bs (k := X.size + Y.size) (by rw [hXz, htz]; exact hc) hq0
            have i0 : (0 : Int) ≤ (j : Int) := by omega
            have i1 : (j : Int) < (ps.length : Int) := by omega
            have i2 : ¬ 1 + (n : Int) < (Y.size : Int) := by omega
            have hcat : ∀ e : List UInt8, X ++ Y ++ ⟨e.toArray⟩ = bs (Ln.back (ps.take j) ++ t ++ e) := fun e => by rw [HX.out, HY.out, bs_append]; exact bs_append _ e
            have HXZ := Lib.hid hXz
            have HTZ := Lib.hid htz
            by_cases hc : s[(Ln.back (ps.take j)).length + t.length]? = some 13
            · have hz : ((B[X.size + Y.size].toNat : Int) == 13) = true := by rw [hBq 13 hc]; rfl
              rw [if_pos hc] at z1
              have HC := Lib.hid (hcat [13, 10])
              have Z1 := Lib.hid z1
              clear hBq hc z1 z3 hcat hLj htg hp hXz htz hpm
              rcases gd with _ | _
              · go_wp2_with fail
                go_roundg g'
                case measure => omega
                case rel =>
                  refine ⟨j + 1, by go_num, by omega, ?_, rfl⟩
                  rw [HN.out, ← Z1.out, ← HC.out]
              · go_wp2_with fail
                go_roundg g'
                case measure => omega
                case rel =>
                  refine ⟨j + 1, by go_num, by omega, ?_, rfl⟩
                  rw [HN.out, ← Z1.out, ← HC.out]
            · have hgd : gd = false := by
                rcases gd with _ | _
                · rfl
                · exact absurd (z3 rfl) hc
              subst hgd
              have hz : ((B[X.size + Y.size].toNat : Int) == 13) = false := by
                obtain ⟨c, hcc⟩ : ∃ c, s[(Ln.back (ps.take j)).length + t.length]? = some c := ⟨_, List.getElem?_eq_getElem z2⟩
                rw [hBq c hcc]
                refine (byte_eq (x := c) (c := 13) (by omega)).trans ?_
                rw [decide_eq_false_iff_not]
                intro h
                exact hc (by rw [hcc, h]; rfl)
              rw [if_neg hc] at z1
              have HC := Lib.hid (hcat [10])
              have Z1 := Lib.hid z1
              clear hBq hc z1 z3 hcat hLj htg hp hXz htz hpm
              go_wp2_with fail
              go_roundg g'
              case measure => omega
              case rel =>
                refine ⟨j + 1, by go_num, by omega, ?_, rfl⟩
                rw [HN.out, ← Z1.out, ← HC.out]
          · obtain rfl : j = ps.length := by omega
            obtain ⟨V, hV⟩ : ∃ V, V = bs U := ⟨_, rfl⟩
            rw [← hV]
            have hcat : X ++ V = B := by
              rw [hV]
              rw [HX.out, bs_append, List.take_length, ← E1.out, HB.out]
            have hXU : X.size + V.size = B.size := by rw [← hcat, ByteArray.size_append]
            have q4 : X.size ≤ 300 := by omega
            have q5 : V.size ≤ 300 := by omega
            clear hXU hXz hV
            go_wp2_with fail
            refine (awake07_any _).mono ?_
            rintro e w3 ⟨rfl, g3⟩
            go_wp2_with fail
            go_ret
            exact ⟨rfl, h2.trans (g3.mono h2.size)⟩
end Go.Proofs.Yteppipkokeaijaa
