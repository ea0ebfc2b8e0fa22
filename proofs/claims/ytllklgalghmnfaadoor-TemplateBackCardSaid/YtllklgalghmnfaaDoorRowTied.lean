/- The listed variable: what the row's condition gives the walks; the door's own heap meets it. -/
import Derived.Test.YtllklgalghmnfaaDoorRows
import Derived.Test.YtllklgalghmnfaaDoorTplRead
import Derived.LaidMore
import Derived.OpenShut
import Derived.ProofKit
import Derived.Stop.Joined
namespace Go.Proofs.YtllklgalghmnfaaDoor
open Go.ChangeShapes Go.WideShapes Go.ChangeAt Go.RowKit Str Mem Tp
set_option linter.unusedVariables false

def laidP : List (String × DataW Unit) := [("waypost/template.names", Rows.laid_waypost_template_names)]
theorem gNames : Tryd.prog.globalNamed "waypost/template.names" = some 0 := by kernel_rfl
theorem tNames : (Tryd.prog.globals[0]?).map (·.type) = some 103 := by kernel_rfl
theorem door_met (os : Os) (args : Array Value) : laidMetH Tryd.prog laidP ((World.doorLaid Tryd.prog 400 os).forCall (fun _ _ => 0) ⟨#[], args, []⟩).memory :=
  laidMetH_of_parts3 (fuel := 8) (laidMet_of_run' 8 (by kernel_rfl) (by kernel_rfl)) (by kernel_rfl) (by kernel_rfl)
theorem nm_of_laid {W : World} (h : laidMetH Tryd.prog laidP W) : Nm W := by
  rw [MakeChecks.laidMetH_plain _ _ _ (by kernel_rfl)] at h
  obtain ⟨ps, ⟨g, t, cs, fuel, p, q, hg, ht, hv, hd, _, _⟩, _, _⟩ := h
  obtain rfl := Option.some.inj (gNames.symm.trans hg)
  obtain rfl := Option.some.inj (tNames.symm.trans ht)
  obtain ⟨xs, m, rfl, hx, hlen, hn, hel⟩ := DataW.trod_array Tryd.underlying103 hd
  have c9 : Tryd.prog.cellsOf 9 = 1 := by kernel_rfl
  have c5 : Tryd.prog.cellsOf 103 = 5 := by kernel_rfl
  rw [c5] at hlen
  rw [c9] at hel
  have hcell := World.var?_cell hg hv
  obtain ⟨l⟩ := cs
  simp only [Rows.laid_waypost_template_names, Prod.mk.injEq, DataW.agg.injEq] at hx
  have key : ∀ (i : Nat) (s : List UInt8), i < 5 → (xs.map (·.1))[i]? = some (.lit (.string s)) → W.cell? ⟨0, i, none⟩ = some (.string (bs s)) := fun i s hi hs => by
    have h1 := hel i hi
    rw [List.getElem?_map] at hs
    obtain ⟨x, hx1, hx2⟩ := Option.map_eq_some_iff.1 hs
    rw [hx1] at h1
    obtain ⟨b, e1, e2, _⟩ := DataW.trod_string Tryd.underlying9 h1
    have h2 : l[i]? = some (.string b) := by
      have : ((l.drop (i * 1)).take 1)[0]? = some (.string b) := by rw [e1]; rfl
      rw [List.getElem?_take, if_pos (by omega), List.getElem?_drop] at this
      simpa using this
    have h3 := hcell i
    rw [show (({ toList := l } : Array Value))[i]? = l[i]? from by simp, h2] at h3
    rw [h3]
    have hbs : b.data.toList = s := by
      rw [e2] at hx2
      simpa using hx2
    rw [← hbs, bs_data]
  refine ⟨?_, key 0 _ (by omega) (by rw [← hx.1]; rfl), key 1 _ (by omega) (by rw [← hx.1]; rfl), key 2 _ (by omega) (by rw [← hx.1]; rfl), key 3 _ (by omega) (by rw [← hx.1]; rfl), key 4 _ (by omega) (by rw [← hx.1]; rfl)⟩
  have h0 := key 0 [] (by omega) (by rw [← hx.1]; rfl)
  rcases Nat.eq_zero_or_pos W.heap.size with hz | hz
  · have : W.cell? ⟨0, 0, none⟩ = none := by
      unfold World.cell?
      rw [Array.getElem?_eq_none (by omega)]
    rw [this] at h0
    cases h0
  · exact hz
end Go.Proofs.YtllklgalghmnfaaDoor
