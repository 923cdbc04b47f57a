/- YtdmdgkpjjpijdaaDoor: rows and cards: what holds behind a call, said out of a walk. -/
import Derived.Test.YtdmdgkpjjpijdaaDoorW15
import Derived.Test.YtdmdgkpjjpijdaaDoorTie
import Derived.Test.YtdmdgkpjjpijdaaDoorCards
import Derived.ProofKit
import Derived.WalkKit
import Derived.LaidMore
import Derived.OpenShut
import Derived.SevenTiedAt
namespace Go.Proofs.YtdmdgkpjjpijdaaDoor
open Go Go.K Go.ChangeShapes Go.WideShapes Go.ChangeAt Go.RowKit
set_option maxRecDepth 100000
set_option linter.unusedVariables false
set_option linter.unusedSimpArgs false
theorem own : ownKnob Tryd.prog.godebug = none := by kernel_rfl
theorem kept_of_sy {w w' : World} (h : Sy w [] w') (may : MemPlace → Prop) : w.keptBut w' may := by
  refine ⟨h.os, h.output, fun i hi => ?_⟩
  rw [h.rest i hi (by simp)]
  cases w.heap[i]? with
  | none => rfl
  | some o => cases o <;> simp
theorem post_of_sy {H : Type} {enc : TypeId × Value → H} {P : Program} {f : Func} {s : ChangeSpec} {W W' : World} {args : Array Value} {v : Value} {ds gs : List (DataW H)} {before pr pa pv : List MemPlace}
    (hW : DataW.Whole enc P f.params.toList s.vars false W args.toList ds gs before) (hsy : Sy W [] W')
    (hres : DataW.TrodAll enc P W' W.heap.size (fun _ => false) false f.resultTypes.toList (v.resultList f.resultTypes.size) (s.fn H (ds ++ gs)).results pr)
    (hargs : DataW.TrodAll enc P W' 0 (fun b => decide (b < W.heap.size)) true f.params.toList args.toList (s.fn H (ds ++ gs)).args pa)
    (hvars : DataW.TrodVars enc P W' (fun b => decide (b < W.heap.size)) s.vars (s.fn H (ds ++ gs)).vars pv) : s.post enc P f false true false false W args v W' :=
  ⟨ds, gs, before, pr, pa, pv, hW, hres, hargs, hvars, kept_of_sy hsy _, fun h => by cases h⟩
theorem says_of_laid {W : World} {l : List (String × DataW Unit)} (h : laidMetH Tryd.prog l W) (hp : (l.all fun x => x.2.handleName?.isNone) = true) (hm : ("colonnade/kind.says", Rows.laid_colonnade_kind_says) ∈ l) : SaysAt W := by
  rw [MakeChecks.laidMetH_plain _ _ _ hp] at h
  exact says_of_reads (Lib.laidMet.reads h hm)
end Go.Proofs.YtdmdgkpjjpijdaaDoor
