/- YtdmdgkpjjpijdaaDoor: what the library's functions lean on, out of the listed variables; a text that is handed in. -/
import Derived.Test.YtdmdgkpjjpijdaaDoorW17
import Derived.Test.YtdmdgkpjjpijdaaDoorW28
import Derived.Test.YtdmdgkpjjpijdaaDoorW163
namespace Go.Proofs.YtdmdgkpjjpijdaaDoor
open Go Go.K Go.ChangeShapes Go.WideShapes Go.ChangeAt Go.RowKit
set_option maxRecDepth 100000
set_option linter.unusedVariables false
set_option linter.unusedSimpArgs false
set_option maxHeartbeats 2000000
theorem pow_data : (Rows.laid_internal_strconv_uint64pow10 : DataW Unit) = Lib.tabData .u64 Lib.pow10Tab := by kernel_rfl
theorem err_cells {H : Type} {enc : TypeId × Value → H} {P : Program} {w : World} {base : Nat} {sp : Nat → Bool} {held : Bool} {fuel : Nat} {t : TypeId} {ms : Array (String × TypeId)} {cs : List Value} {x : DataW H × List MemPlace} (hu : P.underlying t = some (.interface ms))
    (h : DataW.trod enc P w base sp held fuel t cs = some x) : ∃ v, cs = [v] ∧ (v = .nilIface ∨ ∃ te pe, v = .iface te pe) := by
  cases fuel with
  | zero => simp [DataW.trod] at h
  | succ fuel =>
    unfold DataW.trod at h
    rw [hu] at h
    split at h
    all_goals first
      | (rename_i e; cases e; done)
      | exact ⟨_, rfl, .inl rfl⟩
      | exact ⟨_, rfl, .inr ⟨_, _, rfl⟩⟩
      | cases h
theorem lib_of_laid {W : World} {l : List (String × DataW Unit)} (h : laidMetH Tryd.prog l W) (hp : (l.all fun x => x.2.handleName?.isNone) = true) (h1 : ("internal/strconv.uint64pow10", Rows.laid_internal_strconv_uint64pow10) ∈ l) (h2 : ("strconv.ErrSyntax", Rows.laid_strconv_ErrSyntax) ∈ l) (h3 : ("strconv.ErrRange", Rows.laid_strconv_ErrRange) ∈ l) : LibAt W := by
  rw [MakeChecks.laidMetH_plain _ _ _ hp] at h
  refine ⟨?_, ?_⟩
  · obtain ⟨g, t, cs, fuel, p, hg, hty, hvar, hd⟩ := Lib.laidMet.reads h h1
    obtain rfl := Option.some.inj ((show Tryd.prog.globalNamed "internal/strconv.uint64pow10" = some 2 by kernel_rfl).symm.trans hg)
    obtain rfl := Option.some.inj ((show (Tryd.prog.globals[2]?).map (·.type) = some 131 by kernel_rfl).symm.trans hty)
    rw [pow_data] at hd
    have hu1 : Tryd.prog.underlying 131 = some (.array 20 114) := Tryd.underlying131
    have hu2 : Tryd.prog.underlying 114 = some (.int .u64) := Tryd.underlying114
    have e := Lib.cells_of_tab hu1 hu2 (by kernel_rfl) (by kernel_rfl) hd
    unfold Lib.TabIs
    rw [hvar, ← e]
  · have key : ∀ (n : String) (d : DataW Unit) (g : Nat), Tryd.prog.globalNamed n = some g → (Tryd.prog.globals[g]?).map (·.type) = some 110 → (n, d) ∈ l → ∃ ev, W.cell? ⟨g, 0, none⟩ = some ev ∧ (ev = .nilIface ∨ ∃ te pe, ev = .iface te pe) := by
      intro n d g hgn hgt hm
      obtain ⟨g', t, cs, fuel, p, hg, hty, hvar, hd⟩ := Lib.laidMet.reads h hm
      obtain rfl := Option.some.inj (hgn.symm.trans hg)
      obtain rfl := Option.some.inj (hgt.symm.trans hty)
      obtain ⟨v, hv, hv2⟩ := err_cells Tryd.underlying110 hd
      refine ⟨v, ?_, hv2⟩
      rw [World.var?_cell hg hvar 0, ← Array.getElem?_toList, hv]
      rfl
    rintro g (rfl | rfl)
    · exact key _ _ _ (by kernel_rfl) (by kernel_rfl) h2
    · exact key _ _ _ (by kernel_rfl) (by kernel_rfl) h3
end Go.Proofs.YtdmdgkpjjpijdaaDoor
