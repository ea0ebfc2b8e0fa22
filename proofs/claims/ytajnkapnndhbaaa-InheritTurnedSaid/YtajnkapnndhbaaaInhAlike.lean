/- What the plain functions say hangs on paths, modes and numbers of rules alone. -/
import Derived.Test.YtajnkapnndhbaaaInhSameDirs
namespace Go.Proofs.Ytajnkapnndhbaaa.Inh
open Mem
def key (d : DirV) : Bs × Int × Nat := (d.path, d.mode, d.rn)
/-- Two lists of the same paths, modes and numbers of rules. -/
def Alike (L' L : List DirV) : Prop := L'.map key = L.map key
section
variable {L' L : List DirV} (h : Alike L' L)
  include h
theorem Alike.length : L'.length = L.length := by have := congrArg List.length h; simpa using this
theorem Alike.get (i : Nat) : (L'[i]?).map key = (L[i]?).map key := by
  have := congrArg (fun l => l[i]?) h
  simpa [List.getElem?_map] using this
theorem Alike.path (i : Nat) : pathOf L' i = pathOf L i := by
  have := h.get i
  unfold pathOf
  cases h1 : L'[i]? <;> cases h2 : L[i]? <;> rw [h1, h2] at this <;> simp [key] at this ⊢
  exact this.1
theorem Alike.mode (i : Nat) : modeOf L' i = modeOf L i := by
  have := h.get i
  unfold modeOf
  cases h1 : L'[i]? <;> cases h2 : L[i]? <;> rw [h1, h2] at this <;> simp [key] at this ⊢
  exact this.2.1
theorem Alike.rn (i : Nat) : rnOf L' i = rnOf L i := by
  have := h.get i
  unfold rnOf
  cases h1 : L'[i]? <;> cases h2 : L[i]? <;> rw [h1, h2] at this <;> simp [key] at this ⊢
  exact this.2.2
theorem Alike.plen (i : Nat) : plen L' i = plen L i := by unfold Inh.plen; rw [h.path]
theorem Alike.deepTo (f : Nat → Bool) : ∀ k, deepTo L' f k = deepTo L f k
  | 0 => rfl
  | k + 1 => by
    unfold Inh.deepTo
    rw [Alike.deepTo f k, h.plen, h.plen]
theorem Alike.deepest {f g : Nat → Bool} (hf : f = g) : deepest L' f = deepest L g := by subst hf; unfold Inh.deepest; rw [h.length, h.deepTo]
theorem Alike.find (p : Bs) : find L' p = find L p := h.deepest (by funext i; unfold findF; rw [h.path])
theorem Alike.above (d : Nat) : above L' d = above L d := h.deepest (by funext i; unfold aboveF; rw [h.path, h.path])
theorem Alike.any (i : Nat) (p : Bs) : (L'.take i).any (fun x => x.path == p) = (L.take i).any (fun x => x.path == p) := by
  have e : ∀ M : List DirV, (M.take i).any (fun x => x.path == p) = ((M.map key).take i).any (fun y => y.1 == p) := by
    intro M
    rw [← List.map_take, List.any_map]
    rfl
  rw [e, e, h]
theorem Alike.bad (i : Nat) : badAt L' i = badAt L i := by unfold badAt; rw [h.path, h.any, h.mode]
theorem Alike.total : total L' = total L := by
  have e : ∀ M : List DirV, Inh.total M = ((M.map key).map (fun y => y.2.2)).sum := by
    intro M
    unfold Inh.total
    rw [List.map_map]
    rfl
  rw [e, e, h]
theorem Alike.firstBad : ∀ k, firstBad L' k = firstBad L k
  | 0 => rfl
  | k + 1 => by
    unfold Inh.firstBad
    rw [Alike.firstBad k, h.bad]
theorem Alike.check : check L' = check L := by
  unfold Inh.check
  rw [h.length, h.firstBad, h.total]
  split
  · rfl
  · split
    · rw [h.bad]
    · rfl
theorem Alike.asked (d : Int) : asked L' d = asked L d := by unfold Inh.asked; rw [h.check, h.length]
theorem Alike.chainN : ∀ (n : Nat) (d : Int), chainN L' n d = chainN L n d
  | 0, _ => rfl
  | n + 1, d => by
    unfold Inh.chainN
    rw [h.above, Alike.chainN n]
theorem Alike.chain (d : Int) : chain L' d = chain L d := h.chainN 200 d
theorem Alike.own (d : Nat) : own L' d = own L d := by unfold Inh.own; rw [h.rn]
theorem Alike.setOf : ∀ C, setOf L' C = setOf L C
  | [] => rfl
  | d :: t => by
    unfold Inh.setOf
    rw [h.mode, h.own, Alike.setOf t]
theorem Alike.set (d : Int) : set L' d = set L d := by unfold Inh.set; rw [h.chain, h.setOf]
theorem Alike.all : all L' = all L := by
  have e : Inh.own L' = Inh.own L := by funext d; exact h.own d
  unfold Inh.all
  rw [h.length, e]
theorem Alike.findR (p : Bs) : findR L' p = findR L p := by unfold Inh.findR; rw [h.check, h.find]
theorem Alike.aboveR (d : Int) : aboveR L' d = aboveR L d := by unfold Inh.aboveR; rw [h.asked, h.above]
theorem Alike.setR (d : Int) : setR L' d = setR L d := by unfold Inh.setR; rw [h.asked, h.set]
theorem Alike.rulesR (p : Bs) : rulesR L' p = rulesR L p := by unfold Inh.rulesR; rw [h.findR, h.set]
theorem Alike.allR : allR L' = allR L := by unfold Inh.allR; rw [h.check, h.all]
end
end Go.Proofs.Ytajnkapnndhbaaa.Inh

namespace Go.Proofs.Ytajnkapnndhbaaa
open Go.RowKit Str Mem
set_option linter.unusedVariables false
set_option linter.unusedSimpArgs false

theorem Small.alike {L' L : List DirV} (h : Inh.Alike L' L) (hs : Small L) : Small L' := by
  refine ⟨by rw [h.length]; exact hs.1, fun d hd => ?_⟩
  have hk : Inh.key d ∈ L'.map Inh.key := List.mem_map.2 ⟨d, hd, rfl⟩
  rw [h] at hk
  obtain ⟨x, hx, e⟩ := List.mem_map.1 hk
  have := hs.2 x hx
  simp [Inh.key] at e
  rw [e.1, e.2.2] at this
  exact this

theorem DirCopies.alike {w : World} {base : Nat} {L' L : List DirV} {Rs : List (List RuleV)} (h : DirCopies w base L' L Rs L.length) (hl : Rs.length = L.length) : Inh.Alike L' L := by
  unfold Inh.Alike
  refine List.ext_getElem? fun i => ?_
  rw [List.getElem?_map, List.getElem?_map]
  by_cases hi : i < L.length
  · obtain ⟨ra, rc, R', e, _, _⟩ := h.2 i L[i] (Rs[i]'(by omega)) hi (List.getElem?_eq_getElem hi) (List.getElem?_eq_getElem (by omega))
    rw [e, List.getElem?_eq_getElem hi]
    rfl
  · rw [List.getElem?_eq_none (by rw [h.1]; omega), List.getElem?_eq_none (by omega)]

def LargeI (w : World) (L : List DirV) (i : Value) (wr : World) : Prop :=
  ∃ k : Nat, i = .int .i64 k ∧ k ≤ L.length ∧ k ≤ 13 ∧ (∀ j d, j < k → L[j]? = some d → d.rn ≤ 80 ∧ d.path.length ≤ 200) ∧ wr = w
def LargePost (L : List DirV) (w : World) (e : Ending) (w' : World) : Prop := ∃ b : Bool, e = .returned (.bool b) ∧ w = w' ∧ (b = false → Small L)

theorem large_any (a : Option Addr) (c : Nat) (L : List DirV) (w : World) (h : Dirs w a L.length L) (hl : L.length ≤ maxLen) :
    Calls Try.prog 9 #[.slice a L.length c] w fun e w' => LargePost L w e w' := by
  simp only [maxLen] at hl
  go_enter Try.func9, Try.ntmps9
  go_wp2
  go_loopw [3] (fun i wr => LargeI w L i wr) (fun i _ => L.length - (intOf i).toNat)
  case atStart => exact ⟨0, rfl, Nat.zero_le _, by omega, by omega, rfl⟩
  case round =>
    obtain ⟨k, rfl, hk, hk13, hall, rfl⟩ := hrel
    by_cases hlt : k < L.length
    · by_cases h13 : k < 13
      · obtain ⟨ad, d, rfl, hb, hls, c0, c1, c2⟩ := h.fields hlt
        have Hls := Lib.hid hls
        clear hls
        by_cases e1 : 80 < d.rn
        · have e1' : (80 : Int) < (d.rn : Int) := by omega
          go_wp2
          go_ret
          exact ⟨true, rfl, rfl, by simp⟩
        · have e1' : ¬ (80 : Int) < (d.rn : Int) := by omega
          by_cases e2 : 200 < d.path.length
          · have e2' : (200 : Int) < (d.path.length : Int) := by omega
            go_wp2
            go_ret
            exact ⟨true, rfl, rfl, by simp⟩
          · have e2' : ¬ (200 : Int) < (d.path.length : Int) := by omega
            go_wp2
            go_roundw
            case rel =>
              refine ⟨k + 1, by go_num, by omega, by omega, fun j x hj hx => ?_, rfl⟩
              rcases Nat.lt_or_ge j k with h1 | h1
              · exact hall j x h1 hx
              · obtain rfl : j = k := by omega
                rw [Hls.out] at hx
                cases hx
                omega
            case measure => simp [intOf]; omega
      · obtain rfl : k = 13 := by omega
        have hbig : (12 : Int) < (L.length : Int) := by omega
        go_wp2
        go_ret
        exact ⟨true, rfl, rfl, by simp⟩
    · obtain rfl : k = L.length := by omega
      have hok : L.length ≤ 12 → Small L := fun h12 => ⟨h12, fun d hd => by
        obtain ⟨j, hj, e⟩ := List.getElem_of_mem hd
        exact hall j d hj (by rw [List.getElem?_eq_getElem hj, e])⟩
      by_cases hbig : 12 < L.length
      · have hbig' : (12 : Int) < (L.length : Int) := by omega
        go_wp2
        go_ret
        exact ⟨true, rfl, rfl, by simp⟩
      · have hbig' : ¬ (12 : Int) < (L.length : Int) := by omega
        have Hok := Lib.hid (hok (by omega))
        clear hok
        go_wp2
        go_ret
        exact ⟨false, rfl, rfl, fun _ => Hok.out⟩

end Go.Proofs.Ytajnkapnndhbaaa
