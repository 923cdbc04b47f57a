/- YtdmdgkpjjpijdaaDoor: walks, part 13: the text of a schema without notes. -/
import Derived.Test.YtdmdgkpjjpijdaaDoorW12
import Derived.Test.YtdmdgkpjjpijdaaDoorKn
namespace Go.Proofs.YtdmdgkpjjpijdaaDoor
open Go Go.K
set_option maxRecDepth 100000
set_option linter.unusedVariables false
set_option linter.unusedSimpArgs false
set_option maxHeartbeats 4000000
theorem texts_ok : ∀ n, FieldsOK n ∧ TypedOK n
  | 0 => ⟨fun wb w L M lo v k xs l a c _ _ _ _ _ _ _ _ _ h => by omega, fun wb w L M lo v k xs f a c _ _ _ _ _ _ _ _ _ h => by omega⟩
  | n + 1 => ⟨fields_step n (texts_ok n).2, typed_step n (texts_ok n).1⟩
def printP (l : List Fld) : List UInt8 × Int := if mayP l [] then (textL 0 l, 0) else ([], 5)
theorem print_walk (w : World) (hs : SaysAt w) (lo : Nat) (hlo : lo ≤ w.heap.size) (a : Option Addr) (l : List Fld) (c : Nat) (na : Option Addr) (nc : Nat) (h : SchAt w lo a l c na [] nc) (he : mayP l [] = true → easyL l = true ∧ (textL 0 l).length ≤ 70368744177664) :
    Calls Tryd.prog 8 #[schV a l c na [] nc] w (Rets w (Is (.tuple #[str (printP l).1, i64 (printP l).2]))) := by
  refine enterT (args := [schV a l c na [] nc]) Tryd.func8 rfl Tryd.ntmps8 (congrArg Array.toList Tryd.results8) (by kernel_rfl) (by simp) (Sy.refl w) ?_
  simp (disch := omega) only [push_cast, Nat.reduceEqDiff, schV]
  refine newI (fun b1 hb1 hn1 => ?_)
  have hL : ∀ p ∈ [(b1, Obj.cells #[.slice a l.length c, .slice na 0 nc] 26 (0, 0))], w.heap.size ≤ p.1 := by
    intro p hp
    rw [List.mem_singleton.1 hp]; exact hb1
  simp (disch := omega) only [push_cast, Nat.reduceEqDiff]
  repeat' (first | ((first | refine guardX_t rfl (fun h => ?_) (fun h => ?_) | refine guardX_f rfl (fun h => ?_) (fun h => ?_) | refine condX_d (fun h => ?_) (fun h => ?_) | (refine guardX_bt rfl (fun h => ?_) (fun h => ?_) <;> (try subst h)) | (refine guardX_bf rfl (fun h => ?_) (fun h => ?_) <;> (try subst h)) | (refine condX_b (fun h => ?_) (fun h => ?_) <;> (try subst h)) | refine ldOne Shp.eq (by (first | exact mem0 | exact mem1 | exact mem2 | exact mem3 | exact mem4 | exact mem5)) rfl ?_ | refine loadX_agg Shp.eq (by (first | exact mem0 | exact mem1 | exact mem2 | exact mem3 | exact mem4 | exact mem5)) rfl rfl ?_ | refine newI (fun b hb hn => ?_) | refine storeX 0 rfl Siz.eq rfl rfl (by simp [Value.oneCell']) (by simp) ?_ | refine storeX 1 rfl Siz.eq rfl rfl (by simp [Value.oneCell']) (by simp) ?_ | refine storeX 2 rfl Siz.eq rfl rfl (by simp [Value.oneCell']) (by simp) ?_ | refine storeX 3 rfl Siz.eq rfl rfl (by simp [Value.oneCell']) (by simp) ?_ | refine storeX 4 rfl Siz.eq rfl rfl (by simp [Value.oneCell']) (by simp) ?_ | refine storeX 5 rfl Siz.eq rfl rfl (by simp [Value.oneCell']) (by simp) ?_ | refine storeX 6 rfl Siz.eq rfl rfl (by simp [Value.oneCell']) (by simp) ?_) <;> simp (disch := omega) only [push_cast, Nat.reduceEqDiff]))
  have h' := fun w' hw' => h.sy hlo (w' := w') hw' (fun p hp => Nat.le_trans hlo (hL p hp))
  refine callV en_29 (callX_is (fun w' hw' => may_walk w' (hs.mono hw' hL) lo (Nat.le_trans hlo hw'.size) a l c na [] nc (h' w' hw')) ?_)
  simp (disch := omega) only [push_cast, Nat.reduceEqDiff]
  rw [V_cond]
  simp (disch := omega) only [push_cast, Nat.reduceEqDiff]
  refine condX_b (fun hm => ?_) (fun hm => ?_)
  · have hm' : mayP l [] = false := by simpa using hm
    simp (disch := omega) only [push_cast, Nat.reduceEqDiff]
    exact finIs hL (by simp [printP, hm'])
  · have hm' : mayP l [] = true := by simpa using hm
    simp (disch := omega) only [push_cast, Nat.reduceEqDiff]
    repeat' (first | ((first | refine guardX_t rfl (fun h => ?_) (fun h => ?_) | refine guardX_f rfl (fun h => ?_) (fun h => ?_) | refine condX_d (fun h => ?_) (fun h => ?_) | (refine guardX_bt rfl (fun h => ?_) (fun h => ?_) <;> (try subst h)) | (refine guardX_bf rfl (fun h => ?_) (fun h => ?_) <;> (try subst h)) | (refine condX_b (fun h => ?_) (fun h => ?_) <;> (try subst h)) | refine ldOne Shp.eq (by (first | exact mem0 | exact mem1 | exact mem2 | exact mem3 | exact mem4 | exact mem5)) rfl ?_ | refine loadX_agg Shp.eq (by (first | exact mem0 | exact mem1 | exact mem2 | exact mem3 | exact mem4 | exact mem5)) rfl rfl ?_ | refine newI (fun b hb hn => ?_) | refine storeX 0 rfl Siz.eq rfl rfl (by simp [Value.oneCell']) (by simp) ?_ | refine storeX 1 rfl Siz.eq rfl rfl (by simp [Value.oneCell']) (by simp) ?_ | refine storeX 2 rfl Siz.eq rfl rfl (by simp [Value.oneCell']) (by simp) ?_ | refine storeX 3 rfl Siz.eq rfl rfl (by simp [Value.oneCell']) (by simp) ?_ | refine storeX 4 rfl Siz.eq rfl rfl (by simp [Value.oneCell']) (by simp) ?_ | refine storeX 5 rfl Siz.eq rfl rfl (by simp [Value.oneCell']) (by simp) ?_ | refine storeX 6 rfl Siz.eq rfl rfl (by simp [Value.oneCell']) (by simp) ?_) <;> simp (disch := omega) only [push_cast, Nat.reduceEqDiff]))
    refine callV en_30 (callX_own (fun w' hw' => (texts_ok (SizeOf.sizeOf l + 1)).1 w w' _ _ lo (.slice none 0 0) 0 [] l a c hw' hs hlo hL ⟨rfl, .inl ⟨rfl, rfl, rfl⟩⟩ h.hr h.hc h.hc2 (he hm').1 (by omega) (by have := (he hm').2; omega)) (fun v2 L2 hro => ?_))
    simp (disch := omega) only [push_cast, Nat.reduceEqDiff]
    refine ldOne sh_24 (hro.mem (.head _)) rfl ?_
    simp (disch := omega) only [push_cast, Nat.reduceEqDiff]
    rw [V_block]
    simp (disch := omega) only [push_cast, Nat.reduceEqDiff]
    refine loopT (G := Nat) (fun _ wb e ds L => wb = w ∧ ds = [] ∧ L = L2 ∧ e 4 = v2 ∧ e 15 = i64 0 ∧ e 16 = i64 0) (fun i => i) 0 (by kernel_rfl) ⟨rfl, rfl, rfl, rfl, rfl, rfl⟩ ?_
    rintro i wb e ds L ⟨rfl, rfl, rfl, e4, e15, e16⟩
    simp (disch := omega) only [push_cast, Nat.reduceEqDiff, e4, e15, e16]
    rw [V_cond]
    simp (disch := omega) only [push_cast, Nat.reduceEqDiff, e4, e15, e16]
    refine condX_d (fun hlt => absurd hlt (by omega)) (fun hge => ?_)
    simp (disch := omega) only [push_cast, Nat.reduceEqDiff, e4, e15, e16]
    refine convS un_72 Tryd.underlying5 Tryd.underlying9 (s := textL 0 l) hro ?_
    simp (disch := omega) only [push_cast, Nat.reduceEqDiff, e4, e15, e16]
    exact finIs (hro.new hL) (by simp [printP, hm'])
end Go.Proofs.YtdmdgkpjjpijdaaDoor
