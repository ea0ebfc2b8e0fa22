/- TemplateBack: parts are read from their text, a target from its text. -/
import Derived.Test.YtllklgalghmnfaaDoorLawTplKnown
import Derived.Test.YtllklgalghmnfaaDoorTplBackPlain
import Derived.Deep.Cut
import Derived.Deep.RegionWith
import Derived.Deep.QuietTactic
import Derived.BigQuiet
namespace Go.Proofs.YtllklgalghmnfaaDoor
open Go.RowKit Str Mem Tp
set_option linter.unusedVariables false
set_option linter.unusedSimpArgs false

/-- The path part that the law makes of parts. -/
def pathM : List Part → List Part
  | [] => [⟨1, [47, 120], 0⟩]
  | p :: M => if p.k = 1 then ⟨1, 47 :: p.t, 0⟩ :: M else ⟨1, [47, 120], 0⟩ :: p :: M
theorem pathM_cons (p : Part) (M : List Part) : pathM (p :: M) = if p.k = 1 then ⟨1, 47 :: p.t, 0⟩ :: M else ⟨1, [47, 120], 0⟩ :: p :: M := rfl
theorem pathM_right {M : List Part} (h : checkTo M false = 0) : checkTo (pathM M) false = 0 := by
  rcases M with _ | ⟨p, M⟩
  · rfl
  · unfold checkTo at h
    split at h
    · rename_i h1; exact absurd h h1
    · rename_i h1
      split at h
      · cases h
      · rw [pathM_cons]
        by_cases hk : p.k = 1
        · rw [if_pos hk]
          rw [hk] at h
          unfold checkTo
          rw [if_neg (by simp [oneE, lowR, highR]), if_neg (by simp)]
          exact h
        · rw [if_neg hk]
          unfold checkTo
          rw [if_neg (by simp [oneE, lowR, highR]), if_neg (by simp)]
          unfold checkTo
          rw [if_neg h1, if_neg (fun e => hk e.1)]
          exact h
theorem pathM_place (M : List Part) : placeR (pathM M) = true := by
  rcases M with _ | ⟨p, M⟩
  · rfl
  · rw [pathM_cons]
    by_cases hk : p.k = 1
    · rw [if_pos hk]; rfl
    · rw [if_neg hk]; rfl
theorem pathM_len (M : List Part) : (pathM M).length ≤ M.length + 1 ∧ pathM M ≠ [] := by
  rcases M with _ | ⟨p, M⟩
  · simp [pathM]
  · rw [pathM_cons]
    by_cases hk : p.k = 1
    · rw [if_pos hk]; simp
    · rw [if_neg hk]; simp
theorem pathM_text {M : List Part} (h : ∀ p ∈ M, p.t.length ≤ 3) : ∀ p ∈ pathM M, p.t.length ≤ 4 := by
  rcases M with _ | ⟨q, M⟩
  · intro p hp
    rw [List.mem_singleton.1 hp]; simp
  · intro p hp
    rw [pathM_cons] at hp
    by_cases hk : q.k = 1
    · rw [if_pos hk] at hp
      rcases List.mem_cons.1 hp with rfl | hp
      · have := h q (by simp); simp; omega
      · have := h p (by simp [hp]); omega
    · rw [if_neg hk] at hp
      rcases List.mem_cons.1 hp with rfl | hp
      · simp
      · have := h p hp; omega
/-- The target that the law makes is one that can be written, but for its length. -/
theorem made_target (M Q : List Part) (b1 b2 b3 : Bool) (hM : checkTo M false = 0) (hQ : checkTo Q false = 0) (hq : b1 = false → Q = []) (hb : b1 = true ∨ b2 = true ∨ b3 = true) :
    (tgtText false b3 (if b3 = true then [104, 46, 111, 114, 103] else []) (if b2 = true then pathM M else []) b1 Q).2 = 0 ∨ (tgtText false b3 (if b3 = true then [104, 46, 111, 114, 103] else []) (if b2 = true then pathM M else []) b1 Q).2 = 4 := by
  refine tgt_or ?_ hQ ?_ hq ?_ ?_ ?_
  · cases b2
    · rfl
    · exact pathM_right hM
  · cases b2
    · rfl
    · exact pathM_place M
  · rcases hb with rfl | rfl | rfl
    · exact .inr (.inr rfl)
    · exact .inr (.inl (pathM_len M).2)
    · exact .inl rfl
  · cases b3 <;> rfl
  · cases b3 <;> rfl
theorem OwnParts.from {w : World} {base : Nat} {v : Value} {L : List Part} (h : OwnParts w base v L) : ∃ a c, v = .slice a L.length c ∧ L.length ≤ c ∧ c ≤ maxLen ∧ Parts w a L.length L ∧ ∀ ad : Addr, a = some ad → base ≤ ad.block := by
  obtain ⟨a, c, rfl, h1, h2, h3⟩ := OwnParts.form h
  refine ⟨a, c, rfl, h1, h2, h3, fun ad e => ?_⟩
  subst e
  rcases h.2 with ⟨e, _⟩ | ⟨g, cap, cur, e, hb, _⟩
  · cases e
  · cases e; exact hb
/-- The target in its box while the law makes it. -/
structure TK (w W : World) (n : Nat) (ex : Bool) (Bh : ByteArray) (pa : Option Addr) (pc : Nat) (L : List Part) (hq : Bool) (qa : Option Addr) (qc : Nat) (Q : List Part) : Prop where
  tb : TB w W n false ex Bh pa pc L hq qa qc Q
  np : ∀ ad : Addr, pa = some ad → ad.block ≠ n
  nq : ∀ ad : Addr, qa = some ad → ad.block ≠ n
  c1 : L.length ≤ pc
  c2 : pc ≤ maxLen
  c3 : Q.length ≤ qc
  c4 : qc ≤ maxLen
  wn : w.heap.size ≤ n
section
variable {w W W' : World} {n : Nat} {ex hq : Bool} {Bh : ByteArray} {pa qa : Option Addr} {pc qc : Nat} {L Q : List Part}
theorem TK.lt (h : TK w W n ex Bh pa pc L hq qa qc Q) : n < W.heap.size := lt_of_cells h.tb.row
theorem TK.below (h : TK w W n ex Bh pa pc L hq qa qc Q) (hb : Below W.heap.size W W') : TK w W' n ex Bh pa pc L hq qa qc Q := ⟨h.tb.below hb, h.np, h.nq, h.c1, h.c2, h.c3, h.c4, h.wn⟩
theorem TK.setQ (h : TK w W n ex Bh pa pc L hq qa qc Q) {v : Value} {Q' : List Part} {base : Nat} (ho : OwnParts W base v Q') (hbase : n < base) : ∃ qa' qc', v = .slice qa' Q'.length qc' ∧ TK w (W.setCell ⟨n, 5, none⟩ v) n ex Bh pa pc L hq qa' qc' Q' := by
  obtain ⟨a, c, rfl, h1, h2, h3, h4⟩ := OwnParts.from ho
  refine ⟨a, c, rfl, ⟨?_, ?_, ?_, ?_⟩, h.np, fun ad e => ?_, h.c1, h.c2, h1, h2, h.wn⟩
  · exact set_list h.tb.row 5 _
  · exact Rd.setCell h.tb.pl (p := ⟨n, 5, none⟩) (fun ad e => h.np ad e) _
  · exact Rd.setCell h3 (p := ⟨n, 5, none⟩) (fun ad e => by have := h4 ad e; show ad.block ≠ n; omega) _
  · exact h.tb.bl.setCell (p := ⟨n, 5, none⟩) h.wn _
  · have := h4 ad e; omega
theorem TK.setP (h : TK w W n ex Bh pa pc L hq qa qc Q) {v : Value} {L' : List Part} {base : Nat} (ho : OwnParts W base v L') (hbase : n < base) : ∃ pa' pc', v = .slice pa' L'.length pc' ∧ TK w (W.setCell ⟨n, 3, none⟩ v) n ex Bh pa' pc' L' hq qa qc Q := by
  obtain ⟨a, c, rfl, h1, h2, h3, h4⟩ := OwnParts.from ho
  refine ⟨a, c, rfl, ⟨?_, ?_, ?_, ?_⟩, fun ad e => ?_, h.nq, h1, h2, h.c3, h.c4, h.wn⟩
  · exact set_list h.tb.row 3 _
  · exact Rd.setCell h3 (p := ⟨n, 3, none⟩) (fun ad e => by have := h4 ad e; show ad.block ≠ n; omega) _
  · exact Rd.setCell h.tb.pm (p := ⟨n, 3, none⟩) (fun ad e => h.nq ad e) _
  · exact h.tb.bl.setCell (p := ⟨n, 3, none⟩) h.wn _
  · have := h4 ad e; omega
theorem TK.setEx (h : TK w W n ex Bh pa pc L hq qa qc Q) (ex' : Bool) (Bh' : ByteArray) : TK w ((W.setCell ⟨n, 1, none⟩ (.bool ex')).setCell ⟨n, 2, none⟩ (.string Bh')) n ex' Bh' pa pc L hq qa qc Q := by
  refine ⟨⟨?_, ?_, ?_, ?_⟩, h.np, h.nq, h.c1, h.c2, h.c3, h.c4, h.wn⟩
  · exact set_list (set_list h.tb.row 1 _) 2 _
  · exact Rd.setCell (Rd.setCell h.tb.pl (p := ⟨n, 1, none⟩) (fun ad e => h.np ad e) _) (p := ⟨n, 2, none⟩) (fun ad e => h.np ad e) _
  · exact Rd.setCell (Rd.setCell h.tb.pm (p := ⟨n, 1, none⟩) (fun ad e => h.nq ad e) _) (p := ⟨n, 2, none⟩) (fun ad e => h.nq ad e) _
  · exact (h.tb.bl.setCell (p := ⟨n, 1, none⟩) h.wn _).setCell (p := ⟨n, 2, none⟩) h.wn _
theorem TK.fresh (w W : World) (hb : Below w.heap.size w W) (b : Bool) : TK w (W.alloc (.cells #[.bool false, .bool false, .string ⟨#[]⟩, .slice none 0 0, .bool b, .slice none 0 0] 30)) W.heap.size false ⟨#[]⟩ none 0 [] b none 0 [] := by
  refine ⟨⟨?_, Parts.nil _ _, Parts.nil _ _, hb.alloc hb.size _⟩, (fun ad e => by cases e), (fun ad e => by cases e), Nat.le_refl _, Nat.zero_le _, Nat.le_refl _, Nat.zero_le _, hb.size⟩
  exact World.alloc_heap_new W _
end
theorem one_parts (L : List Part) : ∀ u ∈ partCells L, u.oneCell' = true := by
  intro u hu
  unfold partCells at hu
  obtain ⟨p, _, hp⟩ := List.mem_flatMap.1 hu
  simp only [pcells, List.mem_cons, List.not_mem_nil, or_false] at hp
  rcases hp with rfl | rfl | rfl <;> rfl
theorem tgt_len (sm ex : Bool) (h : Tp.Bs) (L : List Part) (hq : Bool) (M : List Part) : (tgtText sm ex h L hq M).1.length ≤ 96 := by
  unfold tgtText
  by_cases c1 : checkR L ≠ 0
  · rw [if_pos c1]; simp
  rw [if_neg c1]
  by_cases c2 : checkR M ≠ 0
  · rw [if_pos c2]; simp
  rw [if_neg c2]
  by_cases c3 : sm = (ex || !h.isEmpty || !L.isEmpty || hq || !M.isEmpty)
  · rw [if_pos c3]; simp
  rw [if_neg c3]
  by_cases c4 : sm = true
  · rw [if_pos c4]; simp
  rw [if_neg c4]
  by_cases c6 : ex = h.isEmpty ∨ anyH h = true ∨ placeR L = false ∨ (hq = false ∧ M.isEmpty = false)
  · rw [if_pos c6]; simp
  rw [if_neg c6]
  by_cases c7 : 96 < (outP ex h L hq M).length
  · rw [if_pos c7]; simp
  rw [if_neg c7]
  show (outP ex h L hq M).length ≤ 96
  omega
theorem rd_t {r : Tp.Bs} {p : Part} {n : Nat} (h : rd r = .ok p n) : p.t.length ≤ 1 := by
  rcases r with _ | ⟨b, r⟩
  · cases h
  unfold rd at h
  dsimp only at h
  by_cases h1 : b = 92
  · rw [if_pos h1] at h
    rcases r with _ | ⟨x, r⟩
    · cases h
    · cases h; simp
  rw [if_neg h1] at h
  by_cases h2 : b = 36
  · rw [if_pos h2] at h
    rcases r with _ | ⟨x, r⟩
    · cases h
    · dsimp only at h
      by_cases hx : dig x = true
      · rw [if_pos hx] at h; cases h; simp
      · rw [if_neg hx] at h; cases h
  rw [if_neg h2] at h
  by_cases h3 : b = 37
  · rw [if_pos h3] at h
    rcases r with _ | ⟨x, r⟩
    · cases h
    · dsimp only at h
      by_cases hx : dig x = true
      · rw [if_pos hx] at h; cases h; simp
      · rw [if_neg hx] at h
        by_cases hy : x = 123
        · rw [if_pos hy] at h
          unfold rdVar at h
          rcases hn : nameTo r with _ | nm
          · rw [hn] at h; cases h
          · rw [hn] at h
            dsimp only at h
            rcases hv : varNo nm with _ | i
            · rw [hv] at h; cases h
            · rw [hv] at h; cases h; simp
        · rw [if_neg hy] at h; cases h
  · rw [if_neg h3] at h
    cases h; simp
theorem pcs_t : ∀ (f : Nat) (r : Tp.Bs) (i : Nat), ∀ q ∈ (pcs f r i).1, q.p.t.length ≤ 1
  | 0, r, i, q, h => by simp [pcs] at h
  | f + 1, [], i, q, h => by simp [pcs] at h
  | f + 1, b :: r, i, q, h => by
    rw [pcs_succ] at h
    rcases hr : rd (b :: r) with ⟨p, n⟩ | e
    · rw [hr] at h
      dsimp only at h
      rcases List.mem_cons.1 h with rfl | h
      · exact rd_t hr
      · exact pcs_t f _ _ q h
    · rw [hr] at h; simp at h
theorem bytes_app (A B : List Part) : bytesP (A ++ B) = bytesP A + bytesP B := by unfold bytesP; rw [List.map_append, List.sum_append]
theorem bytes_addP (A : List Part) (p : Part) : bytesP (addP A p) = bytesP A + p.t.length := by
  by_cases h : p.k = 1 ∧ endsLit A = true
  · obtain ⟨h1, h2⟩ := h
    rcases List.eq_nil_or_concat A with rfl | ⟨B, q, rfl⟩
    · cases h2
    · rw [List.concat_eq_append] at h2 ⊢
      rw [endsLit_snoc, beq_iff_eq] at h2
      obtain ⟨k, t, n⟩ := p
      obtain ⟨k', u, m⟩ := q
      dsimp only at h1 h2
      subst h1 h2
      rw [addP_more, bytes_app, bytes_app]
      simp [bytesP]; omega
  · rw [addP_new A p h, bytes_app]
    simp [bytesP]
theorem bytes_foldl : ∀ (l A : List Part), (∀ p ∈ l, p.t.length ≤ 1) → bytesP (l.foldl addP A) ≤ bytesP A + l.length
  | [], A, _ => by simp
  | p :: l, A, h => by
    have h1 := bytes_foldl l (addP A p) (fun q hq => h q (by simp [hq]))
    have h2 := h p (by simp)
    rw [bytes_addP] at h1
    rw [List.foldl_cons, List.length_cons]
    omega
theorem bytes_join {l : List Part} (h : ∀ p ∈ l, p.t.length ≤ 1) : bytesP (joinP l) ≤ l.length := by
  have h1 := bytes_foldl l [] h
  have e : bytesP ([] : List Part) = 0 := rfl
  show bytesP (l.foldl addP []) ≤ l.length
  omega
theorem text_bytes : ∀ {L : List Part} {p : Part}, p ∈ L → p.t.length ≤ bytesP L
  | [], p, h => by simp at h
  | q :: L, p, h => by
    have e : bytesP (q :: L) = q.t.length + bytesP L := by simp [bytesP]
    rw [e]
    rcases List.mem_cons.1 h with rfl | h
    · omega
    · have := text_bytes h; omega
structure Small (r : TR) : Prop where
  l : r.L.length ≤ 96
  m : r.M.length ≤ 96
  bl : bytesP r.L ≤ 96
  bm : bytesP r.M ≤ 96
  h : r.h.length ≤ 96
theorem Small.fault (e a : Int) : Small (.fault e a) := ⟨by simp [TR.fault], by simp [TR.fault], by simp [TR.fault, bytesP], by simp [TR.fault, bytesP], by simp [TR.fault]⟩
theorem rest_small (ex : Bool) (h : Tp.Bs) (at' : Nat) (ps : List Piece) (hh : h.length ≤ 96) (hn : ps.length ≤ 96) (ht : ∀ q ∈ ps, q.p.t.length ≤ 1) : Small (restR ex h at' ps) := by
  have hj : ∀ qs : List Piece, qs.length ≤ 96 → (∀ q ∈ qs, q.p.t.length ≤ 1) → (joinP (qs.map (·.p))).length ≤ 96 ∧ bytesP (joinP (qs.map (·.p))) ≤ 96 := fun qs h1 h2 => by
    have a := joinP_len (qs.map (·.p))
    have b := bytes_join (l := qs.map (·.p)) (fun p hp => by obtain ⟨q, hq, rfl⟩ := List.mem_map.1 hp; exact h2 q hq)
    rw [List.length_map] at a b
    omega
  have h1 := hj (ps.takeWhile (fun q => !isQ q)) (Nat.le_trans (List.takeWhile_sublist _).length_le hn) (fun q hq => ht q ((List.takeWhile_sublist _).subset hq))
  unfold restR
  by_cases hp : placeR (pathOf ps) = true
  · rw [if_pos hp]
    rcases hd : ps.dropWhile (fun q => !isQ q) with _ | ⟨d, tl⟩
    · exact ⟨h1.1, by simp, h1.2, by simp [bytesP], hh⟩
    · have hs : (d :: tl).Sublist ps := by rw [← hd]; exact List.dropWhile_sublist _
      have h2 := hj tl (by have := hs.length_le; simp at this; omega) (fun q hq => ht q (hs.subset (by simp [hq])))
      exact ⟨h1.1, h2.1, h1.2, h2.2, hh⟩
  · rw [if_neg hp]; exact Small.fault _ _
theorem target_small (s : Tp.Bs) : Small (targetR s) := by
  unfold targetR
  by_cases he : (parseR s).e ≠ 0
  · rw [if_pos he]; exact Small.fault _ _
  rw [if_neg he]
  have hs := (parse_well (by simpa using he)).1
  have hc : ∀ k i, (pieces (s.drop k) i).1.length ≤ 96 := fun k i => by
    have h2 := pieces_count (s.drop k).length (s.drop k) i
    change (pieces (s.drop k) i).1.length ≤ (s.drop k).length at h2
    rw [List.length_drop] at h2
    omega
  by_cases h2 : s = []
  · rw [if_pos h2]; exact Small.fault _ _
  rw [if_neg h2]
  by_cases h3 : s = [45]
  · rw [if_pos h3]; exact ⟨by simp, by simp, by simp [bytesP], by simp [bytesP], by simp⟩
  rw [if_neg h3]
  by_cases h4 : schemeS.isPrefixOf s = true
  · rw [if_pos h4]
    by_cases h5 : hostOf s = []
    · rw [if_pos h5]; exact Small.fault _ _
    · rw [if_neg h5]
      refine rest_small _ _ _ _ ?_ (hc _ _) (pcs_t _ _ _)
      have : (hostOf s).length ≤ (s.drop 7).length := (List.takeWhile_sublist _).length_le
      rw [List.length_drop] at this
      omega
  · rw [if_neg h4]
    exact rest_small _ _ _ _ (by simp) (hc 0 0) (pcs_t _ _ _)
set_option maxRecDepth 100000 in
set_option maxHeartbeats 16000000 in
theorem lawTplBack_any (ai aj : Option Addr) (ci cj : Nat) (li lj : List Int) (wh : Int) (x : ByteArray) (w : World) (hN : Nm w) (hI : Ints w ai li.length li) (hJ : Ints w aj lj.length lj) :
    Calls Tryd.prog 10 #[.slice ai li.length ci, .slice aj lj.length cj, .int .i64 wh, .string x] w fun e w' => e = .returned (.bool true) ∧ Below w.heap.size w w' := by
  have hwz := hN.lt
  have HNW := Lib.hid hN
  have HI := Lib.hid hI
  have HJ := Lib.hid hJ
  clear hI hJ
  go_enter Tryd.func10, Tryd.ntmps10
  go_wp2_with fail
  refine (lawTplKnown_any _ HNW.out).mono ?_
  rintro e1 w1 ⟨rfl, h1⟩
  have HI1 := Lib.hid (show Ints w1 ai li.length li from Rd.below HI.out h1)
  have hN1 := HNW.out.below h1 hwz
  go_wp2_with fail
  refine (made_any ai ci li _ HI1.out).mono ?_
  rintro e2 w2 ⟨v2, rfl, hO2, h2⟩
  obtain ⟨ma, mc, rfl, hLp, hpm, hPp⟩ := OwnParts.form hO2
  have hb2 := h1.trans (h2.mono h1.size)
  have hgm := madeL_GM li
  have hln := madeL_len li
  obtain ⟨M, hM⟩ : ∃ M, madeL li = M := ⟨_, rfl⟩
  rw [hM] at hgm hln hLp hPp ⊢
  have hck := hgm.ok hln
  have htx : ∀ p ∈ M, p.t.length ≤ 100000 := fun p hp => by have := (hgm.g p hp).2.2; omega
  have htl := text_short M hgm.g
  have htR : textR M = (textP M, 0) := by unfold textR; rw [if_neg (by omega)]
  have hpt := parse_text hck
  have hte := fun W h1 h2 => Text_any ma mc M W h1 (by omega) hLp hpm htx h2
  rw [htR] at hte
  have hpa := fun W h => parse_any (textP M) W (by omega) h
  rw [hpt] at hpa
  unfold ParsePost at hpa
  have HGM := Lib.hid hgm
  have HPp := Lib.hid hPp
  have HB2 := Lib.hid hb2
  have HTX := Lib.hid htx
  obtain ⟨T, hT⟩ : ∃ T, bs (textP M) = T := ⟨_, rfl⟩
  rw [hT] at hpa
  change ∀ W, _ → _ → Calls _ _ _ W fun e w' => e = .returned (.tuple #[.string (bs (textP M)), .int .i64 0]) ∧ _ at hte
  rw [hT] at hte
  clear hM hO2 hgm hPp hb2 h2 htx htl htR hpt hT HI1 hN1
  have hN2 := HNW.out.below HB2.out hwz
  go_wp2_with fail
  refine (hte _ HPp.out hN2).mono ?_
  rintro e3 w3 ⟨rfl, h3⟩
  have HB3 := Lib.hid (HB2.out.trans (h3.mono HB2.out.size))
  have HP3 := Lib.hid (show Parts w3 ma M.length M from Rd.below HPp.out h3)
  have hN3 := HNW.out.below HB3.out hwz
  clear hte hN2 HB2 HPp h3
  go_wp2_with fail
  refine (hpa _ hN3).mono ?_
  rintro e4 w4 ⟨v4, rfl, hO4, h4⟩
  obtain ⟨qa, qc, rfl, -, -, hP4⟩ := OwnParts.form hO4
  have hP4 : Parts w4 qa M.length M := hP4
  have HB4 := Lib.hid (HB3.out.trans (h4.mono HB3.out.size))
  have HP4 := Lib.hid (show Parts w4 ma M.length M from Rd.below HP3.out h4)
  clear hpa hN3 HB3 HP3 h4 hO4
  have hrow := World.alloc_heap_new w4 (.cells #[.int .i64 0, .int .i64 0] 26)
  have hb5 := HB4.out.alloc HB4.out.size (.cells #[.int .i64 0, .int .i64 0] 26)
  have hP5 := Rd.alloc HP4.out (.cells #[.int .i64 0, .int .i64 0] 26)
  have hQ5 := Rd.alloc hP4 (.cells #[.int .i64 0, .int .i64 0] 26)
  obtain ⟨W5, hW5⟩ : ∃ W, W = w4.alloc (.cells #[.int .i64 0, .int .i64 0] 26) := ⟨_, rfl⟩
  rw [← hW5] at hrow hb5 hP5 hQ5
  have f0 := cell_list (cs := [.int .i64 0, .int .i64 0]) hrow 0
  have f1 := cell_list (cs := [.int .i64 0, .int .i64 0]) hrow 1
  simp only [List.getElem?_cons_zero, List.getElem?_cons_succ] at f0 f1
  have HB5 := Lib.hid hb5
  have HP5 := Lib.hid (show Parts W5 ma M.length M from hP5)
  have HQ5 := Lib.hid (show Parts W5 qa M.length M from hQ5)
  clear HB4 HP4 hP4 hrow hb5 hP5 hQ5
  go_wp2_with fail
  rw [← hW5]
  clear hW5
  refine (sameParts_any qa ma qc mc M _ HQ5.out HP5.out (by omega)).mono ?_
  rintro e5 w5 ⟨rfl, n5, rfl⟩
  have hb6 := below_drewN HB5.out n5
  have hp6 : Parts _ ma M.length M := Rd.drewN HP5.out n5
  obtain ⟨W6, hW6⟩ : ∃ W, W = W5.drewN n5 := ⟨_, rfl⟩
  rw [← hW6] at hb6 hp6 ⊢
  have HB6 := Lib.hid hb6
  have HP6 := Lib.hid hp6
  clear hW6 hb6 hp6 HB5 HP5 HQ5 f0 f1
  have hm1 := Int.emod_nonneg wh (show (8 : Int) ≠ 0 by omega)
  have hm2 := Int.emod_lt_of_pos wh (show (0 : Int) < 8 by omega)
  have hmd := fun W => kitMod_any wh 8 W (by omega) (by omega)
  obtain ⟨t, ht⟩ : ∃ t : Nat, wh % 8 = (t : Int) := ⟨(wh % 8).toNat, by omega⟩
  rw [ht] at hmd hm2
  have ht8 : t < 8 := by omega
  clear hm1 hm2 ht
  go_wp2_with fail
  refine (hmd _).mono ?_
  rintro e7 w7 ⟨rfl, rfl⟩
  clear hmd
  obtain ⟨b1, hb1⟩ : ∃ b, ((t : Int) % 2 == 1) = b := ⟨_, rfl⟩
  obtain ⟨b2, hb2⟩ : ∃ b, ((t : Int) / 2 % 2 == 1) = b := ⟨_, rfl⟩
  obtain ⟨b3, hb3⟩ : ∃ b, ((t : Int) / 4 == 1) = b := ⟨_, rfl⟩
  have hbt : 0 < t → b1 = true ∨ b2 = true ∨ b3 = true := fun h0 => by
    rcases (by omega : t = 1 ∨ t = 2 ∨ t = 3 ∨ t = 4 ∨ t = 5 ∨ t = 6 ∨ t = 7) with rfl | rfl | rfl | rfl | rfl | rfl | rfl <;> first | exact .inl (by rw [← hb1]; rfl) | exact .inr (.inl (by rw [← hb2]; rfl)) | exact .inr (.inr (by rw [← hb3]; rfl))
  have HBT := Lib.hid hbt
  clear hbt
  have hk8 := TK.fresh w W6 HB6.out b1
  have hw8 : Below W6.heap.size W6 (W6.alloc (.cells #[.bool false, .bool false, .string ⟨#[]⟩, .slice none 0 0, .bool b1, .slice none 0 0] 30)) := (Below.refl _ W6).alloc (Nat.le_refl _) _
  obtain ⟨W8, hW8⟩ : ∃ W, W = W6.alloc (.cells #[.bool false, .bool false, .string ⟨#[]⟩, .slice none 0 0, .bool b1, .slice none 0 0] 30) := ⟨_, rfl⟩
  rw [← hW8] at hk8 hw8
  have HK8 := Lib.hid hk8
  have HW8 := Lib.hid hw8
  have t4 := hk8.tb.cells.2.2.2.2.1
  rw [hW8] at t4
  clear hk8 hw8
  go_upto_if 59 with fail
  rw [← hW8] at t4 ⊢
  clear hW8
  go_cut [] from 168 (fun wc => Below W6.heap.size W6 wc ∧ ∃ qa qc, TK w wc W6.heap.size false ⟨#[]⟩ none 0 [] b1 qa qc (if b1 = true then madeL lj else []))
  case first =>
    rcases b1 with _ | _
    · go_wp2_with fail
      go_meet
      case rel => exact ⟨HW8.out, none, 0, HK8.out⟩
    · have HJ8 := Lib.hid (show Ints W8 aj lj.length lj from Rd.below HJ.out HK8.out.tb.bl)
      go_wp2_with fail
      refine (made_any aj cj lj _ HJ8.out).mono ?_
      rintro e9 w9 ⟨v9, rfl, hO9, h9⟩
      have hk9 := HK8.out.below h9
      obtain ⟨qb, qd, rfl, hk10⟩ := hk9.setQ hO9 HK8.out.lt
      have s5 := hk9.tb.cells.2.2.2.2.2
      have f5 := Lib.frozen_of_heap hk9.tb.row 5
      have HK10 := Lib.hid hk10
      have HW9 := Lib.hid ((HW8.out.trans (h9.mono HW8.out.size)).setCell (p := ⟨W6.heap.size, 5, none⟩) (Nat.le_refl _) (.slice qb (madeL lj).length qd))
      clear hk10 hk9 hO9 h9
      go_wp2_with fail
      go_meet
      case rel => exact ⟨HW9.out, qb, qd, HK10.out⟩
  case rest =>
  obtain ⟨hwA, qb, qd, hkA⟩ := hcut
  obtain ⟨Q, hQ⟩ : ∃ Q, (if b1 = true then madeL lj else []) = Q := ⟨_, rfl⟩
  have hgQ : GM Q := by rw [← hQ]; split; exact madeL_GM lj; exact GM.nil
  have hlQ : Q.length ≤ 8 := by rw [← hQ]; split; exact madeL_len lj; simp
  have hqQ : b1 = false → Q = [] := fun e => by rw [← hQ, e]; rfl
  rw [hQ] at hkA
  clear hQ t4 HK8 HW8
  obtain ⟨WA, rfl⟩ : ∃ W, W = wc := ⟨_, rfl⟩
  go_upto_if 66 with fail
  go_cut [] from 168 (fun wc => Below W6.heap.size W6 wc ∧ ∃ pa pc, TK w wc W6.heap.size false ⟨#[]⟩ pa pc (if b2 = true then pathM M else []) b1 qb qd Q)
  case first =>
    rcases b2 with _ | _
    · go_wp2_with fail
      go_meet
      case rel => exact ⟨hwA, none, 0, hkA⟩
    · have hPA : Parts WA ma M.length M := Rd.below HP6.out hwA
      have HPA := Lib.hid hPA
      have HKA := Lib.hid hkA
      have HWA := Lib.hid hwA
      have hsA := hwA.size
      clear hPA hkA hwA
      go_upto_region 12 with fail
      go_cut [] from 168 (fun wc => Below W6.heap.size W6 wc ∧ ∃ pa pc, TK w wc W6.heap.size false ⟨#[]⟩ pa pc (⟨1, [47, 120], 0⟩ :: M) b1 qb qd Q)
      case first =>
        have hlaw := law_literal_any [47, 120]
        unfold pv at hlaw
        go_wp2_with fail
        refine (hlaw _).mono ?_
        rintro e9 w9 ⟨rfl, h9⟩
        clear hlaw
        have HP9 := Lib.hid (show Parts w9 ma M.length M from Rd.below HPA.out h9)
        have HK9 := Lib.hid (HKA.out.below h9)
        have HW9 := Lib.hid (HWA.out.trans (h9.mono hsA))
        have hs9 := h9.size
        have hlt9 := HK9.out.lt
        have hn9 : W6.heap.size < WA.heap.size := HKA.out.lt
        clear HPA h9
        obtain ⟨i0, hi, hz0, hz1, hz2⟩ := info_parts infoPart
        have hOw : Owns (w9.alloc (.cells #[.int .i64 1, .string (bs [47, 120]), .int .i64 0] 59)) w9.heap.size 59 3 (.slice (some ⟨w9.heap.size, 0, none⟩) 1 1) 1 [.int .i64 1, .string (bs [47, 120]), .int .i64 0] := Rw.owns (Rw.new w9 _ _) 3 1 w9.heap.size rfl (Nat.le_refl _) (by simp [maxLen])
        go_wp2_with (at_builtin; go_must (refine wpList_append_owns _ rfl _ _ 23 rfl w9.heap.size 59 i0 (.agg #[.int .i64 0, .string ⟨#[]⟩, .int .i64 0]) 3 32 Tryd.underlying23 hi hz0 hz1 hz2 rfl (by decide) _ 1 _ rfl hOw ma M.length mc (partCells M) rfl (Rd.alloc HP9.out _) (one_parts M) (by simp only [maxLen]; omega) (by omega) (by simp) ?_); intro v10 w10 hown10 hgrow10; have hO10 : OwnParts w10 w9.heap.size v10 (⟨1, [47, 120], 0⟩ :: M) := (by unfold OwnParts; rw [List.length_cons, Nat.add_comm]; exact hown10); have hb10 : Below w9.heap.size w9 w10 := ((Below.refl _ w9).alloc (Nat.le_refl _) _).grown hgrow10 (by simp) (by rintro k hk; change some w9.heap.size = some k at hk; cases hk; exact Nat.le_refl _); have hk10 := HK9.out.below hb10; obtain ⟨pa, pc, rfl, hk11⟩ := hk10.setP hO10 (by omega); have s3 := hk10.tb.cells.2.2.2.1; have f3 := Lib.frozen_of_heap hk10.tb.row 3; have HK11 := Lib.hid hk11; have HW11 := Lib.hid ((HW9.out.trans (hb10.mono (by omega))).setCell (p := ⟨W6.heap.size, 3, none⟩) (Nat.le_refl _) (.slice pa (M.length + 1) pc)); clear hk10 hk11 hO10 hown10 hb10)
        go_meet
        case rel => exact ⟨HW11.out, pa, pc, HK11.out⟩
      case rest =>
      obtain ⟨hwB, pa, pc, hkB⟩ := hcut
      obtain ⟨WB, rfl⟩ : ∃ W, W = wc := ⟨_, rfl⟩
      clear HWA HKA HPA
      have hPB : Parts WB ma M.length M := Rd.below HP6.out hwB
      have hsB := hwB.size
      rcases M with _ | ⟨p, M'⟩
      · go_wp2_with fail
        go_meet
        case rel => exact ⟨hwB, pa, pc, hkB⟩
      · obtain ⟨ad, rfl, hadb, c0, c1, c2⟩ := Parts.get hPB 0 p rfl
        have ea : ad.add (0 * 3) = ad := by unfold Addr.add; simp
        rw [ea] at c0 c1 c2
        clear ea
        have hl0 : (0 : Int) < (M'.length : Int) + 1 := by omega
        have had6 : ad.block < W6.heap.size := by obtain ⟨ad9, e9, h9, -⟩ := Parts.get HP6.out 0 p rfl; cases e9; exact h9
        have hmcap : M'.length + 1 ≤ mc := by simpa using hLp
        by_cases hpk : p.k = 1
        · have k1 : (p.k == 1) = true := by rw [hpk]; rfl
          have hlaw := law_literal_any (47 :: p.t)
          unfold pv at hlaw
          have hcat : (ByteArray.mk #[47]) ++ bs p.t = bs (47 :: p.t) := by
            refine eq_of_data ?_
            rw [append_data, data_bs, data_bs]
            rfl
          have hadB : ad.block < WB.heap.size := by omega
          have hgp := (HGM.out.g p (by simp)).2.2
          have hszp : ¬ (9223372036854775807 < 1 + List.length p.t) := by omega
          have h1l : (1 : Int) ≤ (M'.length : Int) + 1 := by omega
          obtain ⟨A9, hA9⟩ : ∃ A, (if mc = 1 then some ad else some ⟨ad.block, ad.off + 3, none⟩ : Option Addr) = A := ⟨_, rfl⟩
          have hRdA : Rd WB 3 A9 M'.length (partCells M') := by
            have h9 := Rd.drop hPB (show 1 ≤ (p :: M').length by simp) A9 (fun h => by
              simp only [List.length_cons] at h
              rw [← hA9, if_neg (by omega)]
              show _ = some (ad.add (1 * 3))
              unfold Addr.add
              simp)
            exact h9
          have hpm : pathM (p :: M') = ⟨1, 47 :: p.t, 0⟩ :: M' := by rw [pathM_cons, if_pos hpk]
          obtain ⟨i0, hi, hz0, hz1, hz2⟩ := info_parts infoPart
          have hlM : M'.length ≤ 8 := by simp at hln; omega
          clear hPB c2
          go_wp2_with fail
          refine wp_region_noPanic ?_
          refine wp_region_held_drew (S := (fun W => W.cell? ⟨ad.block, ad.off + 1, none⟩ = some (.string (bs p.t)))) (by kernel_rfl) ?_ (fun hH => ?_)
          · exact c1
          refine Reg.take (i := 0) (u := ?z1v) rfl rfl rfl (by kernel_rfl) (by kernel_rfl) (by kernel_rfl) hH ?z1y ?z1r
          case z1y => (intro w hSw; (try dsimp only at hSw); go_simp; try (with_reducible rfl))
          case' z1r => simp only [List.setIfInBounds_toArray, List.set_cons_zero, List.set_cons_succ]
          refine Reg.take (i := 1) (u := ?z2v) rfl rfl rfl (by kernel_rfl) (by kernel_rfl) (by kernel_rfl) hH ?z2y ?z2r
          case z2y => (intro w hSw; (try dsimp only at hSw); go_simp; try (with_reducible rfl))
          case' z2r => simp only [List.setIfInBounds_toArray, List.set_cons_zero, List.set_cons_succ]
          refine Reg.take (i := 2) (u := ?z3v) rfl rfl rfl (by kernel_rfl) (by kernel_rfl) (by kernel_rfl) hH ?z3y ?z3r
          case z3y => (intro w hSw; (try dsimp only at hSw); go_simp; try (with_reducible rfl))
          case' z3r => simp only [List.setIfInBounds_toArray, List.set_cons_zero, List.set_cons_succ]
          refine Reg.take (i := 3) (u := ?z4v) rfl rfl rfl (by kernel_rfl) (by kernel_rfl) (by kernel_rfl) hH ?z4y ?z4r
          case z4y => (intro w hSw; (try dsimp only at hSw); go_simp; try (with_reducible rfl))
          case' z4r => simp only [List.setIfInBounds_toArray, List.set_cons_zero, List.set_cons_succ]
          refine Reg.take (i := 4) (u := ?z5v) rfl rfl rfl (by kernel_rfl) (by kernel_rfl) (by kernel_rfl) hH ?z5y ?z5r
          case z5y => (intro w hSw; (try dsimp only at hSw); go_simp; try (with_reducible rfl))
          case' z5r => simp only [List.setIfInBounds_toArray, List.set_cons_zero, List.set_cons_succ]
          refine Reg.take (i := 7) (u := ?z6v) rfl rfl rfl (by kernel_rfl) (by kernel_rfl) (by kernel_rfl) hH ?z6y ?z6r
          case z6y => (intro w hSw; (try dsimp only at hSw); go_simp; try (with_reducible rfl))
          case' z6r => simp only [List.setIfInBounds_toArray, List.set_cons_zero, List.set_cons_succ]
          refine Reg.take (i := 8) (u := ?z7v) rfl rfl rfl (by kernel_rfl) (by kernel_rfl) (by kernel_rfl) hH ?z7y ?z7r
          case z7y => (intro w hSw; (try dsimp only at hSw); go_simp; try (with_reducible rfl))
          case' z7r => simp only [List.setIfInBounds_toArray, List.set_cons_zero, List.set_cons_succ]
          refine Reg.only (i := 5) rfl (Reg.wanted_free rfl) (by kernel_rfl) (fun K hK => ?_)
          go_simp
          go_at_call 38
          refine (hlaw _).mono ?_
          rintro e9 w9 ⟨rfl, h9⟩
          go_simp
          have hc9 := (World.cell?_of_block (a := ⟨ad.block, ad.off + 1, none⟩) (h9.block _ hadB)).trans c1
          have h9s : WB.heap.size ≤ w9.heap.size := h9.size
          refine hK.out _ _ ?_ (fun hH2 => ?_)
          · exact hc9
          clear hK hH
          have hH := hH2; clear hH2
          try simp only [Act.put, List.setIfInBounds_toArray, List.set_cons_zero, List.set_cons_succ]
          refine Reg.only (i := 6) rfl (Reg.wanted_free rfl) (by kernel_rfl) (fun K hK => ?_)
          go_simp
          refine hK.out _ _ ?_ (fun hH2 => ?_)
          · exact (World.cell?_of_block (a := ⟨ad.block, ad.off + 1, none⟩) (Below.heap_alloc w9 (.cells #[.int .i64 1, .string (bs (47 :: p.t)), .int .i64 0] 59) _ (by show ad.block < _; omega))).trans hc9
          clear hK hH
          have hH := hH2; clear hH2
          try simp only [Act.put, List.setIfInBounds_toArray, List.set_cons_zero, List.set_cons_succ]
          have hk9 := (hkB.below ((Below.refl _ WB).drew)).below h9
          have hw9 := (hwB.drew).trans (h9.mono hwB.drew.size)
          have hlt9 := hk9.lt
          have hRd9 : Rd (w9.alloc (.cells #[.int .i64 1, .string (bs (47 :: p.t)), .int .i64 0] 59)) 3 A9 M'.length (partCells M') := Rd.alloc (Rd.below (Rd.drew hRdA) h9) _
          have hOw : Owns (w9.alloc (.cells #[.int .i64 1, .string (bs (47 :: p.t)), .int .i64 0] 59)) w9.heap.size 59 3 (.slice (some ⟨w9.heap.size, 0, none⟩) 1 1) 1 [.int .i64 1, .string (bs (47 :: p.t)), .int .i64 0] := Rw.owns (Rw.new w9 _ _) 3 1 w9.heap.size rfl (Nat.le_refl _) (by simp [maxLen])
          refine Reg.only (i := 9) rfl (Reg.wanted_free rfl) (by kernel_rfl) (fun K hK => ?_)
          refine wp_append_owns (o := _) _ _ _ 23 rfl w9.heap.size 59 i0 (.agg #[.int .i64 0, .string ⟨#[]⟩, .int .i64 0]) 3 32 Tryd.underlying23 hi hz0 hz1 hz2 rfl (by decide) _ 1 _ rfl hOw A9 M'.length (mc - 1) (partCells M') rfl hRd9 (one_parts M') (by simp only [maxLen]; omega) (by omega) (by simp) ?_
          intro v10 w10 hown10 hgrow10
          have hO10 : OwnParts w10 w9.heap.size v10 (⟨1, 47 :: p.t, 0⟩ :: M') := by unfold OwnParts; rw [List.length_cons, Nat.add_comm]; exact hown10
          have hb10 : Below w9.heap.size w9 w10 := ((Below.refl _ w9).alloc (Nat.le_refl _) _).grown hgrow10 (by simp) (by rintro k hk; change some w9.heap.size = some k at hk; cases hk; exact Nat.le_refl _)
          have hk10 := hk9.below hb10
          obtain ⟨pa2, pc2, rfl, hk11⟩ := hk10.setP hO10 (by omega)
          have s3 := hk10.tb.cells.2.2.2.1
          have f3 := Lib.frozen_of_heap hk10.tb.row 3
          have hc10 := (World.cell?_of_block (a := ⟨ad.block, ad.off + 1, none⟩) (hb10.block _ (by show ad.block < _; omega))).trans hc9
          have hw10 := (hw9.trans (hb10.mono (by omega))).setCell (p := ⟨W6.heap.size, 3, none⟩) (Nat.le_refl _) (.slice pa2 (M'.length + 1) pc2)
          have HK11 := Lib.hid hk11
          have HW10 := Lib.hid hw10
          clear hk9 hk10 hk11 hO10 hown10 hgrow10 hb10 hw9 hw10 hOw hRd9
          refine hK.out _ _ ?_ (fun hH2 => ?_)
          · exact hc10
          clear hK hH
          have hH := hH2; clear hH2
          try simp only [Act.put, List.setIfInBounds_toArray, List.set_cons_zero, List.set_cons_succ]
          refine Reg.take (i := 10) (u := ?z8v) rfl rfl rfl (by kernel_rfl) (by kernel_rfl) (by kernel_rfl) hH ?z8y ?z8r
          case z8y => (intro w hSw; (try dsimp only at hSw); go_simp; try (with_reducible rfl))
          case' z8r => simp only [List.setIfInBounds_toArray, List.set_cons_zero, List.set_cons_succ]
          refine Reg.only (i := 11) rfl (Reg.wanted_free rfl) (by kernel_rfl) (fun K hK => ?_)
          go_simp
          refine hK.out _ _ ?_ (fun hH2 => ?_)
          · exact (World.cell?_of_block (a := ⟨ad.block, ad.off + 1, none⟩) (Below.heap_setCell w10 ⟨W6.heap.size, 3, none⟩ _ _ (by show ad.block ≠ W6.heap.size; omega))).trans hc10
          clear hK hH
          have hH := hH2; clear hH2
          try simp only [Act.put, List.setIfInBounds_toArray, List.set_cons_zero, List.set_cons_succ]
          refine wpAnyH_done (by kernel_rfl) ?_ _
          refine NoPanic.normal ?_
          go_wp2_with fail
          go_meet
          case rel => exact ⟨HW10.out, pa2, pc2, by show TK w _ W6.heap.size false ⟨#[]⟩ pa2 pc2 (pathM (p :: M')) b1 qb qd Q; rw [hpm]; exact HK11.out⟩
        · have k1 : (p.k == 1) = false := by rw [beq_eq_false_iff_ne]; exact hpk
          have hpm : pathM (p :: M') = ⟨1, [47, 120], 0⟩ :: p :: M' := by rw [pathM_cons, if_neg hpk]
          go_wp2_with fail
          go_meet
          case rel => exact ⟨hwB, pa, pc, by have h9 := hkB; rw [← hpm] at h9; exact h9⟩
  case rest =>
  obtain ⟨hwC, pa, pc, hkC⟩ := hcut
  obtain ⟨WC, rfl⟩ : ∃ W, W = wc := ⟨_, rfl⟩
  obtain ⟨L, hL⟩ : ∃ L, (if b2 = true then pathM M else []) = L := ⟨_, rfl⟩
  obtain ⟨hh, hhh⟩ : ∃ h, (if b3 = true then [104, 46, 111, 114, 103] else ([] : Tp.Bs)) = h := ⟨_, rfl⟩
  have hmt := fun hb => made_target M Q b1 b2 b3 HGM.out.c hgQ.c hqQ hb
  rw [hL, hhh] at hmt
  have hLn : L.length ≤ 9 := by rw [← hL]; split; have := (pathM_len M).1; omega; simp
  have hLt : ∀ p ∈ L, p.t.length ≤ 1000 := by
    rw [← hL]; split
    · intro p hp; have := pathM_text (fun q hq => (HGM.out.g q hq).2.2) p hp; omega
    · intro p hp; simp at hp
  have hQt : ∀ p ∈ Q, p.t.length ≤ 1000 := fun p hp => by have := (hgQ.g p hp).2.2; omega
  have hhn : hh.length ≤ 5 := by rw [← hhh]; split <;> simp
  rw [hL] at hkC
  have hh0 : b3 = false → hh = [] := fun e => by rw [← hhh, e]; rfl
  have hh1 : b3 = true → hh = [104, 46, 111, 114, 103] := fun e => by rw [← hhh, e]; rfl
  have HMT := Lib.hid hmt
  have HH0 := Lib.hid hh0
  have HH1 := Lib.hid hh1
  have HLt := Lib.hid hLt
  have HQt := Lib.hid hQt
  clear hL hhh hmt hh0 hh1 hLt hQt hgQ hqQ hb2
  go_upto_if 95 with fail
  go_cut [] from 168 (fun wc => ∃ pa pc, TK w wc W6.heap.size b3 (bs hh) pa pc L b1 qb qd Q)
  case first =>
    rcases b3 with _ | _
    · have hbe : bs hh = ⟨#[]⟩ := by rw [HH0.out rfl]
      rw [← hbe] at hkC
      have HKC := Lib.hid hkC
      clear hbe hkC
      go_wp2_with fail
      go_meet
      case rel => exact ⟨pa, pc, HKC.out⟩
    · have s1 := hkC.tb.cells.2.1
      have f1 := Lib.frozen_of_heap hkC.tb.row 1
      have hk1 := hkC.setEx true (bs hh)
      have hr1 := set_list hkC.tb.row 1 (.bool true)
      have s2 := cell_list hr1 2
      have f2 := Lib.frozen_of_heap hr1 2
      have HK1 := Lib.hid hk1
      have hBS : bs hh = ⟨#[104, 46, 111, 114, 103]⟩ := by rw [HH1.out rfl]
      clear hk1 hr1
      have HBS := Lib.hid hBS
      clear hBS
      rw [HBS.out] at HK1
      go_wp2_with fail
      go_meet
      case rel => exact ⟨pa, pc, by rw [HBS.out]; exact HK1.out⟩
  case rest =>
  obtain ⟨pa, pc, hkD⟩ := hcut
  obtain ⟨WD, rfl⟩ : ∃ W, W = wc := ⟨_, rfl⟩
  clear hwC hkC
  have HKD := Lib.hid hkD
  obtain ⟨r1, r2, r3, r4, r5, r6⟩ := hkD.tb.cells
  clear hkD
  go_upto_if 99 with fail
  go_cut [] from 98 (fun wc => Below w.heap.size w wc)
  case first =>
    by_cases ht0 : t = 0
    · have e0 : ¬ (0 : Int) < (t : Int) := by omega
      clear ht0
      go_wp2_with fail
      go_meet
      case rel => exact HKD.out.tb.bl
    · have e0 : (0 : Int) < (t : Int) := by omega
      have hmt := HMT.out (HBT.out (by omega))
      clear ht0
      have hNd := HNW.out.below HKD.out.tb.bl hwz
      have htt := targetText_any false b3 b1 hh pa qb pc qd L Q WD hNd HKD.out.tb.pl HKD.out.tb.pm (by omega) (by omega) (by omega) HKD.out.c1 HKD.out.c3 HKD.out.c2 HKD.out.c4 HLt.out HQt.out
      unfold tgtV at htt
      have hback := @target_text false b3 hh L b1 Q
      have hlen := tgt_len false b3 hh L b1 Q
      obtain ⟨r, hr⟩ : ∃ r, tgtText false b3 hh L b1 Q = r := ⟨_, rfl⟩
      rw [hr] at htt hmt hback hlen
      have HMT2 := Lib.hid hmt
      have HBACK := Lib.hid hback
      have HLEN := Lib.hid hlen
      clear hr hmt hback hlen HMT HBT
      go_wp2_with fail
      refine htt.mono ?_
      rintro e10 w10 ⟨rfl, h10⟩
      clear htt r1 r2 r3 r4 r5 r6
      have HK10 := Lib.hid (HKD.out.below h10)
      have hN10 := HNW.out.below HK10.out.tb.bl hwz
      have hrt := fun W h => target_cap r.1 W (by have := HLEN.out; omega) h
      rcases HMT2.out with h0 | h4
      · have hb := HBACK.out h0
        rw [hb] at hrt
        unfold TargetCap tgtV at hrt
        dsimp only at hrt
        have e4 : r.2 = 0 := h0
        obtain ⟨r1, r2⟩ := r
        dsimp only at e4 hrt
        subst e4
        clear h0 hb HMT2 HBACK HLEN
        go_wp2_with fail
        refine (hrt _ hN10).mono ?_
        rintro e11 w11 ⟨p2, c2, q2, d2, rfl, hP2, hQ2, h11, -⟩
        clear hrt hN10
        have hP2 : Parts w11 p2 L.length L := hP2
        have hQ2 : Parts w11 q2 Q.length Q := hQ2
        have hk11 := HK10.out.below h11
        have t3 := World.alloc_heap_new w11 (.cells #[.bool false, .bool b3, .string (bs hh), .slice p2 L.length c2, .bool b1, .slice q2 Q.length d2] 30)
        have hbA := (Below.refl _ w11).alloc (Nat.le_refl _) (.cells #[.bool false, .bool b3, .string (bs hh), .slice p2 L.length c2, .bool b1, .slice q2 Q.length d2] 30)
        obtain ⟨V3, hV3⟩ : ∃ W, W = w11.alloc (.cells #[.bool false, .bool b3, .string (bs hh), .slice p2 L.length c2, .bool b1, .slice q2 Q.length d2] 30) := ⟨_, rfl⟩
        have hz3 : V3.heap.size = w11.heap.size + 1 := by rw [hV3]; simp
        rw [← hV3] at t3 hbA
        have f3 := World.alloc_heap_new V3 (.cells #[.int .i64 0, .int .i64 0] 26)
        rw [hz3] at f3
        have t3' := (Below.heap_alloc V3 (.cells #[.int .i64 0, .int .i64 0] 26) _ (lt_of_cells t3)).trans t3
        have hbB := hbA.alloc hbA.size (.cells #[.int .i64 0, .int .i64 0] 26)
        obtain ⟨W3, hW3⟩ : ∃ W, W = V3.alloc (.cells #[.int .i64 0, .int .i64 0] 26) := ⟨_, rfl⟩
        rw [← hW3] at f3 t3' hbB
        rw [hV3] at hW3
        have hk3 := hk11.below hbB
        have hP3 : Parts W3 p2 L.length L := Rd.below hP2 hbB
        have hQ3 : Parts W3 q2 Q.length Q := Rd.below hQ2 hbB
        obtain ⟨r1', r2', r3', r4', r5', r6'⟩ := hk3.tb.cells
        have z0 := cell_list (cs := [_, _, _, _, _, _]) t3' 0
        have z1 := cell_list (cs := [_, _, _, _, _, _]) t3' 1
        have z2 := cell_list (cs := [_, _, _, _, _, _]) t3' 2
        have z3 := cell_list (cs := [_, _, _, _, _, _]) t3' 3
        have z4 := cell_list (cs := [_, _, _, _, _, _]) t3' 4
        have z5 := cell_list (cs := [_, _, _, _, _, _]) t3' 5
        have y0 := cell_list (cs := [_, _]) f3 0
        have y1 := cell_list (cs := [_, _]) f3 1
        simp only [List.getElem?_cons_zero, List.getElem?_cons_succ] at z0 z1 z2 z3 z4 z5 y0 y1
        have hst := sameTarget_any false b3 b1 hh p2 pa q2 qb c2 pc d2 qd L Q W3 hP3 hk3.tb.pl hQ3 hk3.tb.pm (by omega) (by omega)
        unfold tgtV at hst
        have HK3 := Lib.hid hk3
        clear hP2 hQ2 hk11 hbA hbB hk3 t3 f3 t3' hP3 hQ3 h11 HK10 HKD
        go_upto_region 20 with fail
        rw [← hW3]
        clear hW3 hV3 hz3
        go_wp2_with fail
        refine hst.mono ?_
        rintro e12 w12 ⟨rfl, h12⟩
        go_wp2_with fail
        go_meet
        case rel => exact (HK3.out.below h12).tb.bl
      · obtain ⟨r1, r2⟩ := r
        dsimp only at h4 hrt
        subst h4
        unfold TargetCap tgtV at hrt
        obtain ⟨R, hR⟩ : ∃ R, targetR r1 = R := ⟨_, rfl⟩
        rw [hR] at hrt
        clear hR HMT2 HBACK HLEN
        go_wp2_with fail
        refine (hrt _ hN10).mono ?_
        rintro e11 w11 ⟨p2, c2, q2, d2, rfl, -, -, h11, -⟩
        have hb11 := (HK10.out.below h11).tb.bl
        have HB11 := Lib.hid ((hb11.alloc hb11.size (.cells #[.bool R.sm, .bool R.ex, .string (bs R.h), .slice p2 R.L.length c2, .bool R.hq, .slice q2 R.M.length d2] 30)).alloc (by have := hb11.size; simp; omega) (.cells #[.int .i64 R.e, .int .i64 R.at'] 26))
        clear hrt hN10 h11 hb11
        go_wp2_with fail
        go_meet
        case rel => exact HB11.out
  case rest =>
  obtain ⟨WE, rfl⟩ : ∃ W, W = wc := ⟨_, rfl⟩
  have HBE := Lib.hid hcut
  clear hcut HKD r1 r2 r3 r4 r5 r6
  obtain ⟨s, rfl⟩ : ∃ s, x = bs s := ⟨x.data.toList, (bs_data x).symm⟩
  have hz : (bs s).size = s.length := size_bs s
  by_cases hs : 96 < s.length
  · have q1 : (96 : Int) < ((bs s).size : Int) := by omega
    obtain ⟨B, hB⟩ : ∃ B, bs s = B := ⟨_, rfl⟩
    rw [hB] at q1 ⊢
    clear hz hB
    go_wp2_with fail
    go_ret
    exact ⟨rfl, HBE.out⟩
  · have q1 : ¬ (96 : Int) < ((bs s).size : Int) := by omega
    have hrt := fun W h => target_cap s W (by omega) h
    have hsm := target_small s
    have hri := @target_right s
    have hba := @target_back s
    obtain ⟨R, hR⟩ : ∃ R, targetR s = R := ⟨_, rfl⟩
    rw [hR] at hrt hsm hri hba
    unfold TargetCap tgtV at hrt
    obtain ⟨B, hB⟩ : ∃ B, bs s = B := ⟨_, rfl⟩
    rw [hB] at q1 hrt ⊢
    clear hz hB hR hs
    obtain ⟨sm, ex, h, L2, hq, M2, er, ea⟩ := R
    dsimp only at hrt hri hba
    have hl := hsm.l
    have hm := hsm.m
    have hh9 := hsm.h
    have hLt : ∀ p ∈ L2, p.t.length ≤ 1000 := fun p hp => by have := text_bytes hp; have := hsm.bl; simp only at this; omega
    have hMt : ∀ p ∈ M2, p.t.length ≤ 1000 := fun p hp => by have := text_bytes hp; have := hsm.bm; simp only at this; omega
    dsimp only at hl hm hh9
    have HRI := Lib.hid hri
    have HBA := Lib.hid hba
    have HLT := Lib.hid hLt
    have HMT2 := Lib.hid hMt
    clear hsm hri hba hLt hMt
    have hNe := HNW.out.below HBE.out hwz
    go_wp2_with fail
    refine (hrt _ hNe).mono ?_
    rintro e20 w20 ⟨pa, pc, qa, qc, rfl, hP, hQ, h20, k1, k2, k3, k4⟩
    clear hrt hNe
    have hb20 := HBE.out.trans (h20.mono HBE.out.size)
    have t3 := World.alloc_heap_new w20 (.cells #[.bool sm, .bool ex, .string (bs h), .slice pa L2.length pc, .bool hq, .slice qa M2.length qc] 30)
    have hbA := (Below.refl _ w20).alloc (Nat.le_refl _) (.cells #[.bool sm, .bool ex, .string (bs h), .slice pa L2.length pc, .bool hq, .slice qa M2.length qc] 30)
    obtain ⟨V3, hV3⟩ : ∃ W, W = w20.alloc (.cells #[.bool sm, .bool ex, .string (bs h), .slice pa L2.length pc, .bool hq, .slice qa M2.length qc] 30) := ⟨_, rfl⟩
    have hz3 : V3.heap.size = w20.heap.size + 1 := by rw [hV3]; simp
    rw [← hV3] at t3 hbA
    have f3 := World.alloc_heap_new V3 (.cells #[.int .i64 er, .int .i64 ea] 26)
    rw [hz3] at f3
    have t3' := (Below.heap_alloc V3 (.cells #[.int .i64 er, .int .i64 ea] 26) _ (lt_of_cells t3)).trans t3
    have hbB := hbA.alloc hbA.size (.cells #[.int .i64 er, .int .i64 ea] 26)
    obtain ⟨W3, hW3⟩ : ∃ W, W = V3.alloc (.cells #[.int .i64 er, .int .i64 ea] 26) := ⟨_, rfl⟩
    rw [← hW3] at f3 t3' hbB
    rw [hV3] at hW3
    have hP3 : Parts W3 pa L2.length L2 := Rd.below hP hbB
    have hQ3 : Parts W3 qa M2.length M2 := Rd.below hQ hbB
    have HB3 := Lib.hid (hb20.trans (hbB.mono hb20.size))
    have HP3 := Lib.hid hP3
    have HQ3 := Lib.hid hQ3
    have HT3 := Lib.hid t3'
    have z0 := cell_list (cs := [_, _, _, _, _, _]) t3' 0
    have z1 := cell_list (cs := [_, _, _, _, _, _]) t3' 1
    have z2 := cell_list (cs := [_, _, _, _, _, _]) t3' 2
    have z3 := cell_list (cs := [_, _, _, _, _, _]) t3' 3
    have z4 := cell_list (cs := [_, _, _, _, _, _]) t3' 4
    have z5 := cell_list (cs := [_, _, _, _, _, _]) t3' 5
    have y0 := cell_list (cs := [_, _]) f3 0
    simp only [List.getElem?_cons_zero, List.getElem?_cons_succ] at z0 z1 z2 z3 z4 z5 y0
    clear hP hQ h20 hb20 hbA hbB t3 f3 t3' hP3 hQ3
    go_upto_region 25 with fail
    rw [← hW3]
    clear hW3 hV3 hz3
    by_cases her : er = 0
    · have htt := targetText_any sm ex hq h pa qa pc qc L2 M2 W3 (HNW.out.below HB3.out hwz) HP3.out HQ3.out (by omega) (by omega) (by omega) k1 k3 k2 k4 HLT.out HMT2.out
      unfold tgtV at htt
      have hri := HRI.out her
      have hba := HBA.out her
      have hlen := tgt_len sm ex h L2 hq M2
      obtain ⟨r, hr⟩ : ∃ r, tgtText sm ex h L2 hq M2 = r := ⟨_, rfl⟩
      rw [hr] at htt hri hba hlen
      have HRI2 := Lib.hid hri
      have HBA2 := Lib.hid hba
      have HLEN := Lib.hid hlen
      have er0 : (er != 0) = false := by rw [her]; rfl
      clear hr hri hba hlen HRI HBA her
      obtain ⟨r1, r2⟩ := r
      dsimp only at htt
      go_wp2_with fail
      refine htt.mono ?_
      rintro e21 w21 ⟨rfl, h21⟩
      clear htt y0
      have HB21 := Lib.hid (HB3.out.trans (h21.mono HB3.out.size))
      rcases HRI2.out with h0 | h4
      · subst h0
        have hb := HBA2.out rfl
        have hrt := fun W h => target_cap r1 W (by have h9 : r1.length ≤ 96 := HLEN.out; omega) h
        rw [hb] at hrt
        unfold TargetCap tgtV at hrt
        dsimp only at hrt
        have HT21 := Lib.hid ((h21.block _ (lt_of_cells HT3.out)).trans HT3.out)
        have HP21 := Lib.hid (show Parts w21 pa L2.length L2 from Rd.below HP3.out h21)
        have HQ21 := Lib.hid (show Parts w21 qa M2.length M2 from Rd.below HQ3.out h21)
        clear hb HBA2 HRI2 HLEN HT3 HP3 HQ3 h21 z0 z1 z2 z3 z4 z5 HB3
        go_wp2_with fail
        refine (hrt _ (HNW.out.below HB21.out hwz)).mono ?_
        rintro e22 w22 ⟨p2, c2, q2, d2, rfl, hP2, hQ2, h22, -⟩
        clear hrt
        have hP2 : Parts w22 p2 L2.length L2 := hP2
        have hQ2 : Parts w22 q2 M2.length M2 := hQ2
        have hb22 := HB21.out.trans (h22.mono HB21.out.size)
        have t3 := World.alloc_heap_new w22 (.cells #[.bool sm, .bool ex, .string (bs h), .slice p2 L2.length c2, .bool hq, .slice q2 M2.length d2] 30)
        have hbA := (Below.refl _ w22).alloc (Nat.le_refl _) (.cells #[.bool sm, .bool ex, .string (bs h), .slice p2 L2.length c2, .bool hq, .slice q2 M2.length d2] 30)
        obtain ⟨V3, hV3⟩ : ∃ W, W = w22.alloc (.cells #[.bool sm, .bool ex, .string (bs h), .slice p2 L2.length c2, .bool hq, .slice q2 M2.length d2] 30) := ⟨_, rfl⟩
        have hz3 : V3.heap.size = w22.heap.size + 1 := by rw [hV3]; simp
        rw [← hV3] at t3 hbA
        have f3 := World.alloc_heap_new V3 (.cells #[.int .i64 0, .int .i64 0] 26)
        rw [hz3] at f3
        have t3' := (Below.heap_alloc V3 (.cells #[.int .i64 0, .int .i64 0] 26) _ (lt_of_cells t3)).trans t3
        have hbB := hbA.alloc hbA.size (.cells #[.int .i64 0, .int .i64 0] 26)
        obtain ⟨W4, hW4⟩ : ∃ W, W = V3.alloc (.cells #[.int .i64 0, .int .i64 0] 26) := ⟨_, rfl⟩
        rw [← hW4] at f3 t3' hbB
        rw [hV3] at hW4
        have hu := ((h22.trans (hbB.mono h22.size)).block _ (lt_of_cells HT21.out)).trans HT21.out
        have hP4 : Parts W4 p2 L2.length L2 := Rd.below hP2 hbB
        have hQ4 : Parts W4 q2 M2.length M2 := Rd.below hQ2 hbB
        have hP5 : Parts W4 pa L2.length L2 := Rd.below HP21.out (h22.trans (hbB.mono h22.size))
        have hQ5 : Parts W4 qa M2.length M2 := Rd.below HQ21.out (h22.trans (hbB.mono h22.size))
        have HB4 := Lib.hid (hb22.trans (hbB.mono hb22.size))
        have z0 := cell_list (cs := [_, _, _, _, _, _]) t3' 0
        have z1 := cell_list (cs := [_, _, _, _, _, _]) t3' 1
        have z2 := cell_list (cs := [_, _, _, _, _, _]) t3' 2
        have z3 := cell_list (cs := [_, _, _, _, _, _]) t3' 3
        have z4 := cell_list (cs := [_, _, _, _, _, _]) t3' 4
        have z5 := cell_list (cs := [_, _, _, _, _, _]) t3' 5
        have u0 := cell_list (cs := [_, _, _, _, _, _]) hu 0
        have u1 := cell_list (cs := [_, _, _, _, _, _]) hu 1
        have u2 := cell_list (cs := [_, _, _, _, _, _]) hu 2
        have u3 := cell_list (cs := [_, _, _, _, _, _]) hu 3
        have u4 := cell_list (cs := [_, _, _, _, _, _]) hu 4
        have u5 := cell_list (cs := [_, _, _, _, _, _]) hu 5
        have y0 := cell_list (cs := [_, _]) f3 0
        have y1 := cell_list (cs := [_, _]) f3 1
        simp only [List.getElem?_cons_zero, List.getElem?_cons_succ] at z0 z1 z2 z3 z4 z5 y0 y1 u0 u1 u2 u3 u4 u5
        have hst := sameTarget_any sm ex hq h p2 pa q2 qa c2 pc d2 qc L2 M2 W4 hP4 hP5 hQ4 hQ5 (by omega) (by omega)
        unfold tgtV at hst
        clear hP2 hQ2 hbA hbB t3 f3 t3' hu h22 hb22 HT21 HP21 HQ21 hP4 hQ4 hP5 hQ5
        go_upto_region 31 with fail
        rw [← hW4]
        clear hW4 hV3 hz3
        go_wp2_with fail
        refine hst.mono ?_
        rintro e23 w23 ⟨rfl, h23⟩
        go_wp2_with fail
        go_ret
        exact ⟨rfl, HB4.out.trans (h23.mono HB4.out.size)⟩
      · subst h4
        go_wp2_with fail
        go_ret
        exact ⟨rfl, HB21.out⟩
    · have er0 : (er != 0) = true := by simpa using her
      clear her
      go_wp2_with fail
      go_ret
      exact ⟨rfl, HB3.out⟩
end Go.Proofs.YtllklgalghmnfaaDoor
