/- The statement DotsBack, walked: it returns true. -/
import Derived.Test.YtldjljblcjplaaaSmall
namespace Go.Proofs.Ytldjljblcjplaaa
open Go.RowKit Str Mem
set_option linter.unusedVariables false
set_option linter.unusedSimpArgs false

/-- The round of the last loop. -/
def BackI (w : World) (l : List (List UInt8)) (i : Value) (wr : World) : Prop :=
  ∃ k : Nat, i = .int .i64 k ∧ k ≤ l.length + 1 ∧ Below w.heap.size w wr

theorem add_zero_addr (a : Addr) : a.add 0 = a := by unfold Addr.add; simp

theorem last_slash (s : ByteArray) (b : Bool) (h : Dots.isOpen s.data.toList = b) (hh : s.size - 1 < s.size) : (((s[s.size - 1]'hh).toNat : Int) == 47) = b := by
  have e : s.data.toList.getLast? = some (s[s.size - 1]'hh) := by
    rw [List.getLast?_eq_getElem?, ← size_data, List.getElem?_eq_getElem (by rw [← size_data]; exact hh)]
    rfl
  unfold Dots.isOpen at h
  rw [e] at h
  rw [← h]
  rcases Classical.em ((s[s.size - 1]'hh) = 47) with e1 | e1
  · rw [e1]; rfl
  · have e2 : ¬ ((s[s.size - 1]'hh).toNat : Int) = 47 := fun h => e1 (UInt8.toNat_inj.1 (by simpa using Int.ofNat.inj h))
    rw [beq_eq_false_iff_ne.2 e2]
    symm
    simpa using e1

/-- What the paths of the statement are. -/
structure BackFacts (l : List (List UInt8)) (x : List UInt8) (op : Bool) (p d q : ByteArray) : Prop where
  made : Dots.make l op = (p.data.toList, 0)
  madeD : Dots.make l false = (d.data.toList, 0)
  segs : segsL p.data.toList = l
  segsE : segsE p.data.toList = 0
  join : Dots.join d.data.toList x = (q.data.toList, 0)
  par : Dots.parent q.data.toList = (d.data.toList, 0)
  under1 : Dots.under q.data.toList d.data.toList = (true, 0)
  under2 : Dots.under p.data.toList d.data.toList = (true, 0)
  last : Dots.isOpen p.data.toList = (op || l == [])
  sp : 0 < p.size ∧ p.size ≤ 128
  sd : d.size ≤ 128
  sq : q.size ≤ 128
  above : ∀ k, k ≤ l.length → ∃ t : ByteArray, t.size ≤ 128 ∧ Dots.make (l.take k) false = (t.data.toList, 0) ∧ Dots.under p.data.toList t.data.toList = (true, 0) ∧ Dots.under d.data.toList t.data.toList = (true, 0) ∧ Dots.under t.data.toList d.data.toList = (decide ((k : Int) = l.length), 0)

theorem prefix_take (l : List (List UInt8)) (k : Nat) : (l.take k).isPrefixOf l = true := by
  rw [List.isPrefixOf_iff_prefix]; exact List.take_prefix k l

theorem take_prefix_iff (l : List (List UInt8)) (k : Nat) (h : k ≤ l.length) : l.isPrefixOf (l.take k) = decide ((k : Int) = l.length) := by
  rcases Nat.lt_or_eq_of_le h with h1 | rfl
  · rw [decide_eq_false (by omega)]
    rw [Bool.eq_false_iff]
    intro e
    have := (List.isPrefixOf_iff_prefix.1 e).length_le
    simp at this
    omega
  · simp

theorem backFacts {l : List (List UInt8)} {x : List UInt8} (op : Bool) (hk : Dots.Names l) (hs : ∀ s ∈ l, s.length ≤ 3) (h8 : l.length ≤ 8) (hx : Dots.name x = true) (hxs : x.length ≤ 3) :
    ∃ p d q, BackFacts l x op p d q := by
  have b1 := Dots.small_built hs (by omega) op
  have b2 := Dots.small_built hs (by omega) false
  have hkx : Dots.Names (l ++ [x]) := hk.append (fun s hs => by simp at hs; subst hs; exact hx)
  have hsx : ∀ s ∈ l ++ [x], s.length ≤ 3 := by
    intro s hs'
    rcases List.mem_append.1 hs' with h | h
    · exact hs s h
    · simp at h; subst h; exact hxs
  have b3 := Dots.small_built hsx (by simp; omega) false
  have bt := fun k => Dots.small_built (k := l.take k) (fun s h => hs s (List.mem_of_mem_take h)) (by simp; omega) false
  refine ⟨bs (Dots.built l op), bs (Dots.built l false), bs (Dots.built (l ++ [x]) false), ?_⟩
  constructor
  · exact Dots.make_names hk b1
  · exact Dots.make_names hk b2
  · exact Dots.segsL_names hk b1
  · exact Dots.segsE_names hk b1
  · exact Dots.join_names hk hx b3
  · exact Dots.parent_names hk hx b3
  · show Dots.under (Dots.built (l ++ [x]) false) (Dots.built l false) = _
    rw [Dots.under_made hkx hk false b3 b2]; simp
  · show Dots.under (Dots.built l op) (Dots.built l false) = _
    rw [Dots.under_made hk hk op b1 b2]; simp
  · exact Dots.isOpen_built hk op
  · rw [size_data]
    refine ⟨?_, b1⟩
    show 0 < (Dots.built l op).length
    rw [Dots.built_open]
    split
    · simp
    · rename_i h
      cases l
      · simp at h
      · rw [Dots.body_cons]; simp
  · rw [size_data]; exact b2
  · rw [size_data]; exact b3
  · intro k hkl
    refine ⟨bs (Dots.built (l.take k) false), by rw [size_data]; exact bt k, Dots.make_names (hk.take k) (bt k), ?_, ?_, ?_⟩
    · show Dots.under (Dots.built l op) (Dots.built (l.take k) false) = _
      rw [Dots.under_made hk (hk.take k) op b1 (bt k), prefix_take]
    · show Dots.under (Dots.built l false) (Dots.built (l.take k) false) = _
      rw [Dots.under_made hk (hk.take k) false b2 (bt k), prefix_take]
    · show Dots.under (Dots.built (l.take k) false) (Dots.built l false) = _
      rw [Dots.under_made (hk.take k) hk false (bt k) b2, take_prefix_iff l k hkl]

theorem make_n (a : Option Addr) (c n : Nat) (l : List (List UInt8)) (w : World) (hl : l.length = n) (hS : Strs w a n l) (hlen : (Dots.body l).length ≤ 128) (hn : n ≤ 128) :
    Calls Try.prog 15 #[.slice a n c, .bool false] w fun e w' => e = .returned (.tuple #[.string (bs (Dots.make l false).1), .int .i64 (Dots.make l false).2]) ∧ Below w.heap.size w w' := by
  subst hl
  exact make_any a c l false w hS (by omega) (by unfold maxLen; omega)

set_option maxRecDepth 20000 in
set_option maxHeartbeats 4000000 in
theorem lawBack_any (a : Option Addr) (c : Nat) (nums : List Int) (op : Bool) (n : Int) (w : World) (h : Ints w a nums.length nums) (hl : nums.length ≤ maxLen) (hb : ∀ n ∈ nums, -9223372036854775808 ≤ n ∧ n ≤ 9223372036854775807)
    (hn1 : -9223372036854775808 ≤ n) (hn2 : n ≤ 9223372036854775807) :
    Calls Try.prog 7 #[.slice a nums.length c, .bool op, .int .i64 n] w fun e w' => e = .returned (.bool true) ∧ Below w.heap.size w w' := by
  have m1 := fun w h => made_any a c nums w h hl hb
  have m2 := fun a c w h => made_any a c [n] w h (by simp [maxLen]) (by intro m hm; simp at hm; subst hm; exact ⟨hn1, hn2⟩)
  have hmn : madeOf [n] = [tableAt n] := rfl
  have hk := madeOf_names nums
  have hs := madeOf_short nums
  have h8 := madeOf_length nums
  have hx := table_names _ (tableAt_mem n)
  have hxs := table_short _ (tableAt_mem n)
  rw [hmn] at m2
  obtain ⟨l, hml⟩ : ∃ l, l = madeOf nums := ⟨_, rfl⟩
  obtain ⟨x, hxe⟩ : ∃ x, x = tableAt n := ⟨_, rfl⟩
  rw [← hml] at hk hs h8 m1
  rw [← hxe] at hx hxs m2
  have hbod := Dots.small_body hs (by omega)
  obtain ⟨p, d, q, F⟩ := backFacts op hk hs h8 hx hxs
  clear hml hxe hmn hb hk hs hx
  have k1 := fun w a c h => make_any a c l op w h (by omega) (by unfold maxLen; omega)
  have k2 := fun w a c h => make_any a c l false w h (by omega) (by unfold maxLen; omega)
  rw [F.made, bs_data] at k1
  rw [F.madeD, bs_data] at k2
  have k3 := fun w => (segsAny p w).mono fun e w' h => SegsOf.one h
  rw [F.segs, F.segsE] at k3
  have sd := F.sd
  have sp := F.sp.2
  have sp0 := F.sp.1
  have sq := F.sq
  have k4 := fun w => join_any d (bs x) w (by omega) (by rw [size_data]; show x.length ≤ _; omega)
  have e4 : (bs x).data.toList = x := rfl
  rw [e4, F.join, bs_data] at k4
  have k5 := fun w => parent_any q w
  rw [F.par, bs_data] at k5
  have k6 := fun w => lawUnder_is q d true w (by omega) (by omega) F.under1
  have k7 := fun w => lawUnder_is p d true w (by omega) (by omega) F.under2
  have k8 := last_slash p _ F.last
  go_enter Try.func7, Try.ntmps7
  go_wp2_with fail
  refine (m1 _ h).mono ?_
  rintro e w1 ⟨v, rfl, ⟨al, cl, rfl, hl1, hl2, hS⟩, h1⟩
  go_wp2_with fail
  refine (k1 _ _ _ hS).mono ?_
  rintro e w2 ⟨rfl, h2⟩
  have g2 := h1.trans (h2.mono h1.size)
  go_wp2_with fail
  refine (k3 _).mono ?_
  rintro e w3 ⟨am, cm, rfl, hSm, h3⟩
  have g3 := g2.trans (h3.mono g2.size)
  go_wp2_with fail
  refine (k2 _ _ _ ((hS.below h2).below h3)).mono ?_
  rintro e w4 ⟨rfl, h4⟩
  have g4 := g3.trans (h4.mono g3.size)
  go_wp2_with fail
  refine (m2 _ _ _ (Rd.one _ _ _)).mono ?_
  rintro e w5 ⟨v, rfl, ⟨an, cn, rfl, hn1, hn2, hSn⟩, h5⟩
  have g5 := (g4.alloc g4.size _).trans (h5.mono (by simp; exact Nat.le_trans g4.size (Nat.le_succ _)))
  obtain ⟨adn, x', rfl, _, hx', hxc⟩ := hSn.get (k := 0) (by simp)
  simp at hx'
  subst hx'
  rw [add_zero_addr] at hxc
  go_wp2_with fail
  refine (k4 _).mono ?_
  rintro e w6 ⟨rfl, h6⟩
  have g6 := g5.trans (h6.mono g5.size)
  go_wp2_with fail
  refine (k5 _).mono ?_
  rintro e w7 ⟨rfl, h7⟩
  have g7 := g6.trans (h7.mono g6.size)
  have b47 := (((h4.alloc h4.size _).trans (h5.mono (by simp; exact Nat.le_trans h4.size (Nat.le_succ _)))).trans (h6.mono (by
    have := h5.size; simp at this; have := h4.size; omega))).trans (h7.mono (by have := h6.size; have := h5.size; simp at this; have := h4.size; omega))
  have hS4 := (hS.below h2).below h3
  have hS7 := hS4.below b47
  have hSm7 := hSm.below b47
  have hst := fun w h1 h2 => sameTexts_any am al cm cl l l w h1 h2 (by unfold maxLen; omega)
  rw [beq_self_eq_true] at hst
  have dd : (d.toList == d.toList) = true := by simp
  go_wp2_with fail
  refine (hst _ hSm7 hS7).mono ?_
  rintro e w8 ⟨rfl, h8⟩
  have g8 := g7.trans (h8.mono g7.size)
  go_wp2_with fail
  refine (k6 _).mono ?_
  rintro e w9 ⟨rfl, h9⟩
  have g9 := g8.trans (h9.mono g8.size)
  go_wp2_with fail
  refine (k7 _).mono ?_
  rintro e w10 ⟨rfl, h10⟩
  have g10 := g9.trans (h10.mono g9.size)
  have hS10 := ((hS7.below h8).below h9).below h10
  have hidx : p.size - 1 < p.size := by omega
  replace k8 := k8 hidx
  have hl0 : ((l.length : Int) == 0) = (l == []) := by cases l <;> simp; omega
  obtain ⟨z, hz⟩ : ∃ z, z = (l == []) := ⟨_, rfl⟩
  rw [← hz] at hl0 k8
  have Hz := Lib.hid hz
  clear hz
  rcases op with _ | _ <;> rcases z with _ | _ <;> simp only [Bool.or_true, Bool.or_false, Bool.true_or, Bool.false_or] at k8
  all_goals go_wp2_with fail
  all_goals
    go_loopw [19] (fun i wr => BackI w10 l i wr) (fun i _ => l.length + 1 - (intOf i).toNat)
    case atStart => exact ⟨0, rfl, by omega, Below.refl _ _⟩
    case round =>
      obtain ⟨k, rfl, hk, hbl⟩ := hrel
      by_cases hlt : k ≤ l.length
      · obtain ⟨t, ht, T1, T2, T3, T4⟩ := F.above k hlt
        have hSk := Strs.take (hS10.below hbl) hlt
        have u1 := fun w a c h => make_n a c k (l.take k) w (by simp; omega) h (Nat.le_trans (body_take_le' l k) (by omega)) (by omega)
        rw [T1, bs_data] at u1
        have u2 := fun w => lawUnder_is p t true w (by omega) (by omega) T2
        have u3 := fun w => lawUnder_is d t true w (by omega) (by omega) T3
        have u4 := fun w => lawUnder_is t d _ w (by omega) (by omega) T4
        clear T1 T2 T3 T4
        obtain ⟨b, hbk⟩ : ∃ b, b = decide ((k : Int) = l.length) := ⟨_, rfl⟩
        rw [← hbk] at u4
        have hbk' : ((k : Int) == (l.length : Int)) = b := by rw [hbk]; rfl
        clear hbk
        rcases al with _ | ad
        · have hx0 : l.length = 0 := by
            rcases Nat.eq_zero_or_pos l.length with h | h
            · exact h
            · obtain ⟨_, h', _⟩ := Rd.get hS h
              cases h'
          obtain rfl : k = 0 := by omega
          obtain rfl : true = b := by rw [← hbk', hx0]; rfl
          have hbk0 : ((0 : Int) == (l.length : Int)) = true := by rw [hx0]; rfl
          clear hx0 hbk'
          go_wp2_with fail
          refine (u1 _ _ _ hSk).mono ?_
          rintro e v1 ⟨rfl, i1⟩
          have j1 := hbl.trans (i1.mono hbl.size)
          go_wp2_with fail
          refine (u2 _).mono ?_
          rintro e v2 ⟨rfl, i2⟩
          have j2 := j1.trans (i2.mono j1.size)
          go_wp2_with fail
          refine (u3 _).mono ?_
          rintro e v3 ⟨rfl, i3⟩
          have j3 := j2.trans (i3.mono j2.size)
          go_wp2_with fail
          refine (u4 _).mono ?_
          rintro e v4 ⟨rfl, i4⟩
          have j4 := j3.trans (i4.mono j3.size)
          go_wp2_with fail
          go_roundw
          case rel => exact ⟨1, rfl, by omega, j4⟩
          case measure => simp [intOf]; try omega
        · go_wp2_with fail
          refine (u1 _ _ _ hSk).mono ?_
          rintro e v1 ⟨rfl, i1⟩
          have j1 := hbl.trans (i1.mono hbl.size)
          go_wp2_with fail
          refine (u2 _).mono ?_
          rintro e v2 ⟨rfl, i2⟩
          have j2 := j1.trans (i2.mono j1.size)
          go_wp2_with fail
          refine (u3 _).mono ?_
          rintro e v3 ⟨rfl, i3⟩
          have j3 := j2.trans (i3.mono j2.size)
          go_wp2_with fail
          refine (u4 _).mono ?_
          rintro e v4 ⟨rfl, i4⟩
          have j4 := j3.trans (i4.mono j3.size)
          go_wp2_with fail
          go_roundw
          case rel => exact ⟨k + 1, by go_num, by omega, j4⟩
          case measure => simp [intOf]; omega
      · go_wp2_with fail
        refine (awake_any _).mono ?_
        rintro e v1 ⟨rfl, i1⟩
        have j1 := hbl.trans (i1.mono hbl.size)
        go_wp2_with fail
        go_ret
        exact ⟨rfl, g10.trans (j1.mono g10.size)⟩

end Go.Proofs.Ytldjljblcjplaaa
