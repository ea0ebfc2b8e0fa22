/- A []api.Dir that came in: directories, their rules, the rules' conditions; and how many conditions at most. -/
import Derived.Test.YtajnkapnndhbaaaRows
import Derived.Test.YtajnkapnndhbaaaRowOpen
import Derived.Test.YtajnkapnndhbaaaInhOwnDirs
import Derived.Deep.Slices
import Derived.ChangeArms
import Derived.ChangeSlices
import Derived.OpenShut
import Derived.Lib.SmallJoins
namespace Go.Proofs.Ytajnkapnndhbaaa
open Go.RowKit Go.WideShapes Go.ChangeShapes Mem
set_option linter.unusedVariables false
set_option linter.unusedSimpArgs false

section
variable {H : Type}
theorem bulk_pos (d : DataW H) : 1 ≤ Rows.uptoBulk d := by
  cases d with
  | lit l => cases l <;> simp [Rows.uptoBulk]
  | _ => simp [Rows.uptoBulk]
theorem bulk_part {d : DataW H} : ∀ {l : List (DataW H)}, d ∈ l → Rows.uptoBulk d ≤ Rows.uptoBulkAll l
  | x :: r, h => by
    simp only [Rows.uptoBulkAll]
    rcases List.mem_cons.1 h with rfl | e
    · omega
    · have := bulk_part e; omega
theorem bulk_length : ∀ (l : List (DataW H)), l.length ≤ Rows.uptoBulkAll l
  | [] => by simp [Rows.uptoBulkAll]
  | x :: r => by have := bulk_pos x; have := bulk_length r; simp only [Rows.uptoBulkAll, List.length_cons]; omega
end

section
variable {H : Type} {enc : TypeId × Value → H} {P : Program} {W : World} {base : Nat} {sp : Nat → Bool} {held : Bool}

/-- A struct's fields, each with its reading. -/
theorem fields_of {t : TypeId} {fs : Array Field} {fuel : Nat} {cs : List Value} {x : DataW H × List MemPlace} (ht : P.underlying t = some (.struct fs)) (h : DataW.trod enc P W base sp held fuel t cs = some x) :
    ∃ n, cs.length = P.cellsOf t ∧ ∀ (i : Nat) (f : Field), fs[i]? = some f → ∃ y, DataW.trod enc P W base sp held n f.type ((cs.drop f.offset).take (P.cellsOf f.type)) = some y ∧ (∀ p ∈ y.2, p ∈ x.2) ∧ Rows.uptoBulk y.1 ≤ Rows.uptoBulk x.1 := by
  obtain ⟨xs, n, _, rfl, hl, hlen, hf⟩ := DataW.trod_struct ht h
  refine ⟨n, hl, fun i f hi => ?_⟩
  have hil : i < xs.length := by rw [hlen]; exact (Array.getElem?_eq_some_iff.1 hi).1
  refine ⟨xs[i], ?_, fun p hp => ?_, ?_⟩
  · rw [hf i f hi, List.getElem?_eq_getElem hil]
  · exact List.mem_flatMap.2 ⟨xs[i], List.getElem_mem hil, hp⟩
  · show _ ≤ Rows.uptoBulkAll (xs.map (·.1)) + 1
    have := bulk_part (List.mem_map_of_mem (f := (·.1)) (List.getElem_mem hil))
    omega

theorem open_rows {α : Type} [Inhabited α] {t e : TypeId} (sz : Nat) (hsz : 0 < sz) (ht : P.underlying t = some (.slice e)) (hc : P.cellsOf e = sz) (f : α → List Value) (hf : ∀ x, (f x).length = sz) (Q : α → Nat → Prop)
    (each : ∀ n cs y, DataW.trod enc P W 0 (fun _ => true) true n e cs = some y → (∀ p ∈ y.2, p.block < W.heap.size) → ∃ v, cs = f v ∧ Q v (Rows.uptoBulk y.1))
    {fuel : Nat} {cs : List Value} {x : DataW H × List MemPlace} (h : DataW.trod enc P W 0 (fun _ => true) true fuel t cs = some x) (hlt : ∀ p ∈ x.2, p.block < W.heap.size) :
    ∃ a c, ∃ l : List α, cs = [.slice a l.length c] ∧ l.length ≤ c ∧ c ≤ maxLen ∧ Rd W sz a l.length (l.flatMap f) ∧ l.length ≤ Rows.uptoBulk x.1 ∧ ∀ v ∈ l, ∃ b, Q v b ∧ b ≤ Rows.uptoBulk x.1 := by
  rcases Go.Deep.open_slice ht h with ⟨rfl, rfl⟩ | ⟨a, len, cap, m, n, D, Pl, rfl, _, hl, hm, hmm, rfl, hx⟩
  · exact ⟨none, 0, [], rfl, Nat.le_refl _, by simp [maxLen], Rd.nil _ _ _, by simp, by simp⟩
  · simp only [if_true] at hmm
    subst hmm
    have each2 : ∀ i, i < len → ∃ v : α, W.cells? 0 (a.add (i * P.cellsOf e)) (P.cellsOf e) = some (f v) ∧ Q v (Rows.uptoBulk (D i)) := by
      intro i hi
      obtain ⟨cs', h1, h2⟩ := hx i (by omega)
      obtain ⟨v, rfl, hq⟩ := each n cs' _ h2 (fun p hp => hlt p (List.mem_append_right _ (List.mem_flatMap.2 ⟨i, List.mem_range.2 (by omega), hp⟩)))
      exact ⟨v, h1, hq⟩
    obtain ⟨V, hV⟩ := Go.Deep.choose_lt each2
    have hlen : ((List.range len).map V).length = len := by simp
    have hbulk : Rows.uptoBulkAll ((List.range len).map D) + 1 ≤ Rows.uptoBulk (.slice ((List.range len).map D) ((List.range (m - len)).map fun j => D (len + j))) := by
      simp only [Rows.uptoBulk]
      omega
    refine ⟨some a, m, (List.range len).map V, by rw [hlen], by rw [hlen]; exact hl, hm, ?_, ?_, ?_⟩
    · rw [hlen]
      refine ⟨by rw [flatM_length f sz hf, hlen], fun h0 => ⟨a, rfl, ?_, fun j u hu => ?_⟩⟩
      · exact World.cells?_block (hV 0 h0).1 (by omega) |> fun h => by rwa [add_block] at h
      · have hj : j < len * sz := by
          have := (List.getElem?_eq_some_iff.1 hu).1
          rw [flatM_length f sz hf, hlen] at this
          exact this
        have hk : j / sz < len := (Nat.div_lt_iff_lt_mul hsz).2 hj
        have hr : j % sz < sz := Nat.mod_lt _ hsz
        have ej : j / sz * sz + j % sz = j := by rw [Nat.mul_comm]; exact Nat.div_add_mod j sz
        have hg : ((List.range len).map V)[j / sz]? = some (V (j / sz)) := by simp [hk]
        have e2 := flatM_get f sz hf _ _ (j % sz) _ hg hr
        rw [ej] at e2
        obtain ⟨_, _, hcell⟩ := World.cells?_some (hV _ hk).1
        have := hcell (j % sz) (by rw [hc]; exact hr)
        rw [hc, add_twice, ej] at this
        rw [this, ← e2, hu]
    · have := bulk_length ((List.range len).map D)
      simp only [List.length_map, List.length_range] at this ⊢
      omega
    · intro v hv
      obtain ⟨i, hi, rfl⟩ := List.mem_map.1 hv
      refine ⟨_, (hV i (List.mem_range.1 hi)).2, ?_⟩
      have := bulk_part (List.mem_map_of_mem (f := D) hi)
      show _ ≤ Rows.uptoBulk (.slice _ _)
      omega
end

instance : Inhabited CondV := ⟨⟨[], false, [], false, false⟩⟩
instance : Inhabited RuleV := ⟨⟨[], false, none, 0, [], [], false, false, false, false, false, false, false, false, 0, 0⟩⟩
instance : Inhabited DirV := ⟨⟨[], 0, none, 0, 0⟩⟩

section
variable {H : Type} {enc : TypeId × Value → H} {W : World} {base : Nat} {sp : Nat → Bool} {held : Bool}
theorem cs2 {cs : List Value} (h : cs.length = 2) : ∃ c0 c1, cs = [c0, c1] := by
  match cs, h with
  | [c0, c1], _ => exact ⟨_, _, rfl⟩
theorem cs3 {cs : List Value} (h : cs.length = 3) : ∃ c0 c1 c2, cs = [c0, c1, c2] := by
  match cs, h with
  | [c0, c1, c2], _ => exact ⟨_, _, _, rfl⟩
theorem cs5 {cs : List Value} (h : cs.length = 5) : ∃ c0 c1 c2 c3 c4, cs = [c0, c1, c2, c3, c4] := by
  match cs, h with
  | [c0, c1, c2, c3, c4], _ => exact ⟨_, _, _, _, _, rfl⟩
theorem cs14 {cs : List Value} (h : cs.length = 14) : ∃ c0 c1 c2 c3 c4 c5 c6 c7 c8 c9 c10 c11 c12 c13, cs = [c0, c1, c2, c3, c4, c5, c6, c7, c8, c9, c10, c11, c12, c13] := by
  match cs, h with
  | [c0, c1, c2, c3, c4, c5, c6, c7, c8, c9, c10, c11, c12, c13], _ => exact ⟨_, _, _, _, _, _, _, _, _, _, _, _, _, _, rfl⟩

theorem cellsStr : Try.prog.cellsOf 9 = 1 := by kernel_rfl
theorem cellsBool : Try.prog.cellsOf 4 = 1 := by kernel_rfl
theorem cellsInt : Try.prog.cellsOf 3 = 1 := by kernel_rfl
theorem cellsConds : Try.prog.cellsOf 85 = 1 := by kernel_rfl
theorem cellsRules : Try.prog.cellsOf 53 = 1 := by kernel_rfl
theorem cellsCond : Try.prog.cellsOf 104 = 5 := by kernel_rfl
theorem cellsRule : Try.prog.cellsOf 89 = 14 := by kernel_rfl
theorem cellsFlags : Try.prog.cellsOf 87 = 10 := by kernel_rfl
theorem cellsDir : Try.prog.cellsOf 55 = 3 := by kernel_rfl

theorem open_str {n : Nat} {c : Value} {y : DataW H × List MemPlace} (h : DataW.trod enc Try.prog W base sp held n 9 [c] = some y) : ∃ s : List UInt8, c = sv s ∧ y = (.lit (.string s), []) ∧ s.length ≤ maxLen := by
  obtain ⟨s, h1, h2, h3⟩ := DataW.trod_string Try.underlying9 h
  refine ⟨s.data.toList, ?_, h2, by rw [← Str.size_data]; exact h3⟩
  simp only [List.cons.injEq, and_true] at h1
  rw [h1]; rfl

theorem open_cond {n : Nat} {cs : List Value} {y : DataW H × List MemPlace} (h : DataW.trod enc Try.prog W 0 (fun _ => true) true n 104 cs = some y) : ∃ c : CondV, cs = c.cells := by
  obtain ⟨m, hl, hf⟩ := fields_of Try.underlying104 h
  rw [cellsCond] at hl
  obtain ⟨c0, c1, c2, c3, c4, rfl⟩ := cs5 hl
  obtain ⟨y0, h0, -, -⟩ := hf 0 _ rfl
  obtain ⟨y1, h1, -, -⟩ := hf 1 _ rfl
  obtain ⟨y2, h2, -, -⟩ := hf 2 _ rfl
  obtain ⟨y3, h3, -, -⟩ := hf 3 _ rfl
  obtain ⟨y4, h4, -, -⟩ := hf 4 _ rfl
  simp only [List.getElem_toArray, List.getElem_cons_zero, List.getElem_cons_succ, cellsStr, cellsBool, cellsInt, cellsConds, cellsRules, cellsFlags, List.drop, List.take] at h0 h1 h2 h3 h4
  obtain ⟨s0, rfl, -, -⟩ := open_str h0
  obtain ⟨b1, e1, -⟩ := DataW.trod_bool Try.underlying4 h1
  obtain ⟨s2, rfl, -, -⟩ := open_str h2
  obtain ⟨b3, e3, -⟩ := DataW.trod_bool Try.underlying4 h3
  obtain ⟨b4, e4, -⟩ := DataW.trod_bool Try.underlying4 h4
  simp only [List.cons.injEq, and_true] at e1 e3 e4
  subst e1 e3 e4
  exact ⟨⟨s0, b1, s2, b3, b4⟩, rfl⟩

theorem open_rule {n : Nat} {cs : List Value} {y : DataW H × List MemPlace} (h : DataW.trod enc Try.prog W 0 (fun _ => true) true n 89 cs = some y) (hlt : ∀ p ∈ y.2, p.block < W.heap.size) :
    ∃ r : RuleV, cs = r.cells ∧ CondsAt W r ∧ r.conds.length ≤ Rows.uptoBulk y.1 := by
  obtain ⟨m, hl, hf⟩ := fields_of Try.underlying89 h
  rw [cellsRule] at hl
  obtain ⟨c0, c1, c2, c3, c4, c5, c6, c7, c8, c9, c10, c11, c12, c13, rfl⟩ := cs14 hl
  obtain ⟨y0, h0, -, -⟩ := hf 0 _ rfl
  obtain ⟨y1, h1, -, -⟩ := hf 1 _ rfl
  obtain ⟨y2, h2, p2, k2⟩ := hf 2 _ rfl
  obtain ⟨y3, h3, -, -⟩ := hf 3 _ rfl
  obtain ⟨y4, h4, -, -⟩ := hf 4 _ rfl
  simp only [List.getElem_toArray, List.getElem_cons_zero, List.getElem_cons_succ, cellsStr, cellsBool, cellsInt, cellsConds, cellsRules, cellsFlags, List.drop, List.take] at h0 h1 h2 h3 h4
  obtain ⟨m', _, gf⟩ := fields_of Try.underlying87 h4
  obtain ⟨z0, g0, -, -⟩ := gf 0 _ rfl
  obtain ⟨z1, g1, -, -⟩ := gf 1 _ rfl
  obtain ⟨z2, g2, -, -⟩ := gf 2 _ rfl
  obtain ⟨z3, g3, -, -⟩ := gf 3 _ rfl
  obtain ⟨z4, g4, -, -⟩ := gf 4 _ rfl
  obtain ⟨z5, g5, -, -⟩ := gf 5 _ rfl
  obtain ⟨z6, g6, -, -⟩ := gf 6 _ rfl
  obtain ⟨z7, g7, -, -⟩ := gf 7 _ rfl
  obtain ⟨z8, g8, -, -⟩ := gf 8 _ rfl
  obtain ⟨z9, g9, -, -⟩ := gf 9 _ rfl
  simp only [List.getElem_toArray, List.getElem_cons_zero, List.getElem_cons_succ, cellsStr, cellsBool, cellsInt, cellsConds, cellsRules, cellsFlags, List.drop, List.take] at g0 g1 g2 g3 g4 g5 g6 g7 g8 g9
  obtain ⟨s0, rfl, -, -⟩ := open_str h0
  obtain ⟨b1, e1, -⟩ := DataW.trod_bool Try.underlying4 h1
  obtain ⟨a, c, l, e2, hlc, hcm, hrd, hlb, -⟩ := open_rows 5 (by omega) Try.underlying85 cellsCond CondV.cells CondV.cells_length (fun _ _ => True) (fun n cs y h hp => by
    obtain ⟨c, hc⟩ := open_cond h
    exact ⟨c, hc, trivial⟩) h2 (fun p hp => hlt p (p2 p hp))
  obtain ⟨s3, rfl, -, -⟩ := open_str h3
  obtain ⟨f0, e4, -⟩ := DataW.trod_bool Try.underlying4 g0
  obtain ⟨f1, e5, -⟩ := DataW.trod_bool Try.underlying4 g1
  obtain ⟨f2, e6, -⟩ := DataW.trod_bool Try.underlying4 g2
  obtain ⟨f3, e7, -⟩ := DataW.trod_bool Try.underlying4 g3
  obtain ⟨f4, e8, -⟩ := DataW.trod_bool Try.underlying4 g4
  obtain ⟨f5, e9, -⟩ := DataW.trod_bool Try.underlying4 g5
  obtain ⟨f6, e10, -⟩ := DataW.trod_bool Try.underlying4 g6
  obtain ⟨f7, e11, -⟩ := DataW.trod_bool Try.underlying4 g7
  obtain ⟨f8, e12, -⟩ := DataW.trod_int Try.underlying3 g8
  obtain ⟨f9, e13, -⟩ := DataW.trod_int Try.underlying3 g9
  simp only [List.cons.injEq, and_true] at e1 e2 e4 e5 e6 e7 e8 e9 e10 e11 e12 e13
  subst e1 e2 e4 e5 e6 e7 e8 e9 e10 e11 e12 e13
  exact ⟨⟨s0, b1, a, c, l, s3, f0, f1, f2, f3, f4, f5, f6, f7, f8, f9⟩, rfl, hrd, Nat.le_trans hlb k2⟩

theorem open_dir {n : Nat} {cs : List Value} {y : DataW H × List MemPlace} (h : DataW.trod enc Try.prog W 0 (fun _ => true) true n 55 cs = some y) (hlt : ∀ p ∈ y.2, p.block < W.heap.size) :
    ∃ d : DirV, cs = d.cells ∧ ∃ R : List RuleV, d.rn = R.length ∧ Rules W d.ra d.rn R ∧ ∀ r ∈ R, r.conds.length ≤ Rows.uptoBulk y.1 := by
  obtain ⟨m, hl, hf⟩ := fields_of Try.underlying55 h
  rw [cellsDir] at hl
  obtain ⟨c0, c1, c2, rfl⟩ := cs3 hl
  obtain ⟨y0, h0, -, -⟩ := hf 0 _ rfl
  obtain ⟨y1, h1, -, -⟩ := hf 1 _ rfl
  obtain ⟨y2, h2, p2, k2⟩ := hf 2 _ rfl
  simp only [List.getElem_toArray, List.getElem_cons_zero, List.getElem_cons_succ, cellsStr, cellsBool, cellsInt, cellsConds, cellsRules, cellsFlags, List.drop, List.take] at h0 h1 h2
  obtain ⟨s0, rfl, -, -⟩ := open_str h0
  obtain ⟨n1, e1, -⟩ := DataW.trod_int Try.underlying3 h1
  obtain ⟨a, c, R, e2, hlc, hcm, hrd, hlb, hall⟩ := open_rows 14 (by omega) Try.underlying53 cellsRule RuleV.cells RuleV.cells_length (fun r b => CondsAt W r ∧ r.conds.length ≤ b) (fun n cs y h hp => open_rule h hp) h2 (fun p hp => hlt p (p2 p hp))
  simp only [List.cons.injEq, and_true] at e1 e2
  subst e1 e2
  refine ⟨⟨s0, n1, a, R.length, c⟩, rfl, R, rfl, ⟨hrd, fun r hr => ?_⟩, fun r hr => ?_⟩
  · obtain ⟨b, ⟨h1, _⟩, _⟩ := hall r hr
    exact h1
  · obtain ⟨b, ⟨_, h1⟩, h2⟩ := hall r hr
    exact Nat.le_trans h1 (Nat.le_trans h2 k2)

/-- Choose for every element of a list. -/
theorem choose_all {α β : Type} {p : α → β → Prop} : ∀ (l : List α), (∀ x ∈ l, ∃ y, p x y) → ∃ m : List β, m.length = l.length ∧ ∀ (k : Nat) x y, l[k]? = some x → m[k]? = some y → p x y
  | [], _ => ⟨[], rfl, by simp⟩
  | x :: t, h => by
    obtain ⟨y, hy⟩ := h x (by simp)
    obtain ⟨m, hm, hp⟩ := choose_all t (fun z hz => h z (by simp [hz]))
    refine ⟨y :: m, by simp [hm], fun k a b h1 h2 => ?_⟩
    cases k with
    | zero => simp at h1 h2; subst h1 h2; exact hy
    | succ k => exact hp k a b (by simpa using h1) (by simpa using h2)

set_option maxRecDepth 100000 in
/-- A []api.Dir that came in. -/
theorem open_dirs {b0 : Nat} {v : Value} {d : DataW H} {p : List MemPlace} (h : DataW.Trod enc Try.prog W 0 (fun _ => true) true 22 v d p) (hv : Value.okWide Try.prog W .any b0 22 v) (hlt : ∀ x ∈ p, x.block < W.heap.size) :
    ∃ a c, ∃ L : List DirV, ∃ Rs : List (List RuleV), v = .slice a L.length c ∧ L.length ≤ c ∧ c ≤ maxLen ∧ DeepDirs W a L Rs ∧ ∀ R ∈ Rs, ∀ r ∈ R, r.conds.length ≤ Rows.uptoBulk d := by
  obtain ⟨a0, len, cap, rfl⟩ := okWide_slice Try.underlying22 hv
  obtain ⟨fuel, hf⟩ := h
  have hf' : DataW.trod enc Try.prog W 0 (fun _ => true) true fuel 22 [.slice a0 len cap] = some (d, p) := by simpa [Value.cells] using hf
  obtain ⟨a, c, L, e, hlc, hcm, hrd, hlb, hall⟩ := open_rows 3 (by omega) Try.underlying22 cellsDir DirV.cells (fun _ => rfl) (fun dv b => ∃ R : List RuleV, dv.rn = R.length ∧ Rules W dv.ra dv.rn R ∧ ∀ r ∈ R, r.conds.length ≤ b) (fun n cs y h hp => open_dir h hp) hf' hlt
  obtain ⟨Rs, hRs, hR⟩ := choose_all (p := fun (dv : DirV) (R : List RuleV) => dv.rn = R.length ∧ Rules W dv.ra dv.rn R ∧ ∀ r ∈ R, r.conds.length ≤ Rows.uptoBulk d) L (fun dv hdv => by
    obtain ⟨b, ⟨R, h1, h2, h3⟩, h4⟩ := hall dv hdv
    exact ⟨R, h1, h2, fun r hr => Nat.le_trans (h3 r hr) h4⟩)
  simp only [List.cons.injEq, and_true] at e
  refine ⟨a, c, L, Rs, e, hlc, hcm, ⟨hrd, hRs, fun k dv R h1 h2 => ⟨(hR k dv R h1 h2).1, (hR k dv R h1 h2).2.1⟩⟩, fun R hRm => ?_⟩
  obtain ⟨k, hk⟩ := List.getElem?_of_mem hRm
  have hkl : k < L.length := by rw [← hRs]; exact (List.getElem?_eq_some_iff.1 hk).1
  exact (hR k _ R (List.getElem?_eq_getElem hkl) hk).2.2

theorem cellsSpot : Try.prog.cellsOf 24 = 2 := by kernel_rfl
set_option maxRecDepth 100000 in
/-- A Spot that came in. -/
theorem open_spot {b0 : Nat} {v : Value} {d : DataW H} {p : List MemPlace} (h : DataW.Trod enc Try.prog W 0 (fun _ => true) true 24 v d p) (hv : Value.okWide Try.prog W .any b0 24 v) :
    ∃ sd sr, v = spv sd sr := by
  obtain ⟨cs, rfl, hsz⟩ := okWide_struct Try.underlying24 hv
  obtain ⟨c0, c1, rfl⟩ := Go.Joins.array2 (hsz.trans cellsSpot)
  obtain ⟨fuel, hf⟩ := h
  obtain ⟨m, hl, hf⟩ := fields_of Try.underlying24 hf
  obtain ⟨y0, h0, -, -⟩ := hf 0 _ rfl
  obtain ⟨y1, h1, -, -⟩ := hf 1 _ rfl
  simp only [Value.cells] at h0 h1
  simp only [List.getElem_toArray, List.getElem_cons_zero, List.getElem_cons_succ, cellsStr, cellsBool, cellsInt, cellsConds, cellsRules, cellsFlags, List.drop, List.take] at h0 h1
  obtain ⟨n0, e0, -⟩ := DataW.trod_int Try.underlying3 h0
  obtain ⟨n1, e1, -⟩ := DataW.trod_int Try.underlying3 h1
  simp only [List.cons.injEq, and_true] at e0 e1
  subst e0 e1
  exact ⟨n0, n1, rfl⟩

end
end Go.Proofs.Ytajnkapnndhbaaa
