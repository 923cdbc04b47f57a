/- YtdmdgkpjjpijdaaGreatDoor: walks, part 177: the reference's EqSchema of a schema and the same schema elsewhere. -/
import Derived.Test.YtdmdgkpjjpijdaaGreatDoorW60
import Derived.Test.YtdmdgkpjjpijdaaGreatDoorW8
namespace Go.K
open Go
def isStr : Option TypeDesc → Bool
  | some .string => true
  | _ => false
theorem isStr_spec {x : Option TypeDesc} (h : isStr x = true) : x = some .string := by
  unfold isStr at h
  split at h
  · rfl
  · cases h
def pairB (P : Program) (t : TypeId) : Bool := match P.underlying t with
  | some (.struct fs) => match fs.toList with
    | [f0,f1] => (f0.name != "_") && (f1.name != "_") && isStr (P.underlying f0.type) && isStr (P.underlying f1.type) && decide (f0.offset = 0) && decide (f1.offset = 1) && !P.stoodInHeld t && !P.eqGuardType P.depth t
    | _ => false
  | _ => false
theorem pairB_spec {P : Program} {t : TypeId} (h : pairB P t = true) : ∃ f0 f1 : Field,P.underlying t = some (.struct #[f0,f1]) ∧ (f0.name != "_") = true ∧ (f1.name != "_") = true ∧ P.underlying f0.type = some .string ∧ P.underlying f1.type = some .string ∧ f0.offset = 0 ∧ f1.offset = 1 ∧ P.stoodInHeld t = false ∧ P.eqGuardType P.depth t = false := by
  unfold pairB at h
  split at h
  · rename_i fs hu
    split at h
    · rename_i f0 f1 hf
      have e : fs = #[f0,f1] := Array.toList_inj.1 hf
      subst e
      simp only [Bool.and_eq_true,decide_eq_true_eq,Bool.not_eq_true'] at h
      obtain ⟨⟨⟨⟨⟨⟨⟨h1,h2⟩,h3⟩,h4⟩,h5⟩,h6⟩,h7⟩,h8⟩ := h
      exact ⟨f0,f1,hu,h1,h2,isStr_spec h3,isStr_spec h4,h5,h6,h7,h8⟩
    · cases h
  · cases h
theorem neq_pair {P : Program} {t : TypeId} {x y : Operand} {K : Value → Prop} (hB : pairB P t = true) (a b : List UInt8) :
    PureX P (binV .neq t x y (.agg #[str a,str b]) (.agg #[str a,str b])) (tag K) = K (.bool false) := px (fun w => by
  obtain ⟨f0,f1,hu,hn0,hn1,ht0,ht1,ho0,ho1,hs,hg⟩ := pairB_spec hB
  have h0 : ∀ (d : Nat) (ty : TypeId) (l : List UInt8),P.underlying ty = some .string → (Op.equalIn (d + 1) ty (str l) (str l)).run P w = .ok true w := fun d ty l h => by
    unfold Op.equalIn
    simp only [underlying,Sem.run_bind,run_program,Result.andThen_ok,h,Sem.run_pure,str]
    rw [show ((⟨l.toArray⟩ : ByteArray) == ⟨l.toArray⟩) = true from beq_self_eq_true l.toArray]
  have hp : ∀ (ty : TypeId) (cs : Array Value) (i : Nat) (v : Value),P.underlying ty = some .string → cs[i]? = some v → (part ty cs i).run P w = .ok v w := fun ty cs i v h hi => by
    simp [part,isAgg,underlying,h,hi]
  have h : (Op.equal t (.agg #[str a,str b]) (.agg #[str a,str b])).run P w = .ok true w := by
    show (Op.equalIn (9998 + 1 + 1) t (.agg #[str a,str b]) (.agg #[str a,str b])).run P w = _
    unfold Op.equalIn
    have n0 : f0.name ≠ "_" := by simpa using hn0
    have n1 : f1.name ≠ "_" := by simpa using hn1
    simp [underlying,hu,hs,n0,n1,ho0,ho1,hp f0.type #[str a,str b] 0 (str a) ht0 rfl,hp f1.type #[str a,str b] 1 (str b) ht1 rfl,h0 9998 f0.type a ht0,h0 9998 f1.type b ht1]
  have hg2 : (eqGuard .neq t x y (.agg #[str a,str b]) (.agg #[str a,str b])).run P w = .ok () w := by
    simp [eqGuard,hg]
  show ((do eqGuard .neq t x y (.agg #[str a,str b]) (.agg #[str a,str b]); (do pure (.bool (!(← Op.equal t (.agg #[str a,str b]) (.agg #[str a,str b]))))) : Sem Value)).run P w = _
  simp only [Sem.run_bind,Sem.run_pure,Result.andThen_ok,h,hg2]
  rfl) K
end Go.K
namespace Go.Proofs.YtdmdgkpjjpijdaaGreatDoor
open Go Go.K
set_option maxRecDepth 100000
set_option linter.unusedVariables false
set_option linter.unusedSimpArgs false
set_option maxHeartbeats 4000000
theorem neq_note {x y : Operand} {K : Value → Prop} (a b : List UInt8) : PureX Tryz.prog (binV .neq 90 x y (.agg #[str a,str b]) (.agg #[str a,str b])) (tag K) = K (.bool false) :=
  neq_pair (by kernel_rfl) a b
structure EqScI (w0 : World) (b2 b3 : Nat) (nt : List NoteT) (na na' : Option Addr) (nc nc' : Nat) (L0 : Own) (i : Nat) (wb : World) (e : Env) (ds : List Deferred) (L : Own) : Prop where
  hw : wb = w0
  hds : ds = []
  o : L = L0
  il : i ≤ nt.length
  h2 : e 2 = .pointer (some ⟨b2,0,none⟩)
  h3 : e 3 = .pointer (some ⟨b3,0,none⟩)
  h23 : e 23 = i64 nt.length
  h24 : e 24 = i64 i
theorem eqSchema_walk (w : World) (lo lo' : Nat) (l : List Fld) (nt : List NoteT) (a a' : Option Addr) (c c' : Nat) (na na' : Option Addr) (nc nc' : Nat) (hlo : lo ≤ w.heap.size) (hlo' : lo' ≤ w.heap.size) (h : SchAt w lo a l c na nt nc) (h' : SchAt w lo' a' l c' na' nt nc') :
    Calls Tryz.prog 8 #[schV a l c na nt nc,schV a' l c' na' nt nc'] w (Rets w (Is (.bool true))) := by
  have hl : l.length ≤ 9223372036854775807 := Nat.le_trans h.hc h.hc2
  have hnl : nt.length ≤ 9223372036854775807 := Nat.le_trans h.hnc h.hnc2
  refine enterT (args := [schV a l c na nt nc,schV a' l c' na' nt nc']) Tryz.func8 rfl Tryz.ntmps8 (congrArg Array.toList Tryz.results8) (by kernel_rfl) (by simp) (Sy.refl w) ?_
  simp (disch:=omega) only[push_cast,Nat.reduceEqDiff,schV]
  refine newI (fun b2 hb2 hn2 => ?_)
  simp (disch:=omega) only[push_cast,Nat.reduceEqDiff]
  refine newI (fun b3 hb3 hn3 => ?_)
  simp (disch:=omega) only[push_cast,Nat.reduceEqDiff]
  have hL : ∀ p ∈ [(b3,Obj.cells #[.slice a' l.length c',.slice na' nt.length nc'] 27 (0,0)),(b2,Obj.cells #[.slice a l.length c,.slice na nt.length nc] 27 (0,0))],w.heap.size ≤ p.1 := by
    intro p hp
    simp only [List.mem_cons,List.mem_nil_iff,or_false] at hp
    rcases hp with rfl | rfl <;> assumption
  repeat' (first | ((first | refine guardX_t rfl (fun h => ?_) (fun h => ?_) | refine guardX_f rfl (fun h => ?_) (fun h => ?_) | refine condX_d (fun h => ?_) (fun h => ?_) | (refine guardX_bt rfl (fun h => ?_) (fun h => ?_) <;> (try subst h)) | (refine guardX_bf rfl (fun h => ?_) (fun h => ?_) <;> (try subst h)) | (refine condX_b (fun h => ?_) (fun h => ?_) <;> (try subst h)) | refine ldOne Shp.eq (by (first | exact mem0 | exact mem1 | exact mem2 | exact mem3)) rfl ?_ | refine loadX_agg Shp.eq (by (first | exact mem0 | exact mem1 | exact mem2 | exact mem3)) rfl rfl ?_ | refine newI (fun b hb hn => ?_) | refine storeX 0 rfl Siz.eq rfl rfl (by simp [Value.oneCell']) (by simp) ?_ | refine storeX 1 rfl Siz.eq rfl rfl (by simp [Value.oneCell']) (by simp) ?_ | refine storeX 2 rfl Siz.eq rfl rfl (by simp [Value.oneCell']) (by simp) ?_ | refine storeX 3 rfl Siz.eq rfl rfl (by simp [Value.oneCell']) (by simp) ?_) <;> simp (disch:=omega) only[push_cast,Nat.reduceEqDiff]))
  refine callV en_22 (callX_is (fun w' hw' => eqFields_walk w' lo lo' l a a' c c' (Nat.le_trans hlo hw'.size) (Nat.le_trans hlo' hw'.size) (h.hr.sy hlo hw' (fun p hp => Nat.le_trans hlo (hL p hp))) (h'.hr.sy hlo' hw' (fun p hp => Nat.le_trans hlo' (hL p hp))) hl) ?_)
  simp (disch:=omega) only[push_cast,Nat.reduceEqDiff,ne_eq,not_true_eq_false,decide_false,Bool.not_true]
  repeat' (first | ((first | refine guardX_t rfl (fun h => ?_) (fun h => ?_) | refine guardX_f rfl (fun h => ?_) (fun h => ?_) | refine condX_d (fun h => ?_) (fun h => ?_) | (refine guardX_bt rfl (fun h => ?_) (fun h => ?_) <;> (try subst h)) | (refine guardX_bf rfl (fun h => ?_) (fun h => ?_) <;> (try subst h)) | (refine condX_b (fun h => ?_) (fun h => ?_) <;> (try subst h)) | refine ldOne Shp.eq (by (first | exact mem0 | exact mem1 | exact mem2 | exact mem3)) rfl ?_ | refine loadX_agg Shp.eq (by (first | exact mem0 | exact mem1 | exact mem2 | exact mem3)) rfl rfl ?_ | refine newI (fun b hb hn => ?_) | refine storeX 0 rfl Siz.eq rfl rfl (by simp [Value.oneCell']) (by simp) ?_ | refine storeX 1 rfl Siz.eq rfl rfl (by simp [Value.oneCell']) (by simp) ?_ | refine storeX 2 rfl Siz.eq rfl rfl (by simp [Value.oneCell']) (by simp) ?_ | refine storeX 3 rfl Siz.eq rfl rfl (by simp [Value.oneCell']) (by simp) ?_) <;> simp (disch:=omega) only[push_cast,Nat.reduceEqDiff,ne_eq,not_true_eq_false,decide_false,Bool.not_true]))
  rw [V_cond]
  simp (disch:=omega) only[push_cast,Nat.reduceEqDiff,ne_eq,not_true_eq_false,decide_false,Bool.not_true]
  repeat' (first | ((first | refine guardX_t rfl (fun h => ?_) (fun h => ?_) | refine guardX_f rfl (fun h => ?_) (fun h => ?_) | refine condX_d (fun h => ?_) (fun h => ?_) | (refine guardX_bt rfl (fun h => ?_) (fun h => ?_) <;> (try subst h)) | (refine guardX_bf rfl (fun h => ?_) (fun h => ?_) <;> (try subst h)) | (refine condX_b (fun h => ?_) (fun h => ?_) <;> (try subst h)) | refine ldOne Shp.eq (by (first | exact mem0 | exact mem1 | exact mem2 | exact mem3)) rfl ?_ | refine loadX_agg Shp.eq (by (first | exact mem0 | exact mem1 | exact mem2 | exact mem3)) rfl rfl ?_ | refine newI (fun b hb hn => ?_) | refine storeX 0 rfl Siz.eq rfl rfl (by simp [Value.oneCell']) (by simp) ?_ | refine storeX 1 rfl Siz.eq rfl rfl (by simp [Value.oneCell']) (by simp) ?_ | refine storeX 2 rfl Siz.eq rfl rfl (by simp [Value.oneCell']) (by simp) ?_ | refine storeX 3 rfl Siz.eq rfl rfl (by simp [Value.oneCell']) (by simp) ?_) <;> simp (disch:=omega) only[push_cast,Nat.reduceEqDiff,ne_eq,not_true_eq_false,decide_false,Bool.not_true]))
  rw [V_block]
  simp (disch:=omega) only[push_cast,Nat.reduceEqDiff]
  refine loopT (G := Nat) (EqScI w b2 b3 nt na na' nc nc' _) (fun i => nt.length - i) 0 (by kernel_rfl) ⟨rfl,rfl,rfl,by omega,rfl,rfl,rfl,rfl⟩ ?_
  rintro i wb e ds L ⟨rfl,rfl,rfl,hil,h2,h3,h23,h24⟩
  simp (disch:=omega) only[push_cast,Nat.reduceEqDiff,h2,h3,h23,h24]
  rw [V_cond]
  simp (disch:=omega) only[push_cast,Nat.reduceEqDiff,h2,h3,h23,h24]
  refine condX_d (fun hlt => ?_) (fun hge => ?_)
  · obtain ⟨x,hx⟩ : ∃ x,nt[i]? = some x := ⟨_,List.getElem?_eq_getElem (by omega)⟩
    rcases h.hn with h0 | ⟨bn,off,rfl,hbn,hat⟩
    · rw [h0] at hx; simp at hx
    rcases h'.hn with h0 | ⟨bn',off',rfl,hbn',hat'⟩
    · rw [h0] at hx; simp at hx
    obtain ⟨x1,x2,x3⟩ := hat i x hx
    obtain ⟨y1,y2,y3⟩ := hat' i x hx
    simp (disch:=omega) only[push_cast,Nat.reduceEqDiff,h2,h3,h23,h24]
    rw [V_block]
    simp (disch:=omega) only[push_cast,Nat.reduceEqDiff,h2,h3,h23,h24]
    refine drawQT (by kernel_rfl) (by kernel_rfl) mixed (by kernel_rfl) ?_
    simp (disch:=omega) only[push_cast,Nat.reduceEqDiff,h2,h3,h23,h24]
    repeat' (first | ((first | refine guardX_t rfl (fun h => ?_) (fun h => ?_) | refine guardX_f rfl (fun h => ?_) (fun h => ?_) | refine condX_d (fun h => ?_) (fun h => ?_) | (refine guardX_bt rfl (fun h => ?_) (fun h => ?_) <;> (try subst h)) | (refine guardX_bf rfl (fun h => ?_) (fun h => ?_) <;> (try subst h)) | (refine condX_b (fun h => ?_) (fun h => ?_) <;> (try subst h)) | refine ldOne Shp.eq (by (first | exact mem0 | exact mem1 | exact mem2 | exact mem3)) rfl ?_ | refine loadX_agg Shp.eq (by (first | exact mem0 | exact mem1 | exact mem2 | exact mem3)) rfl rfl ?_ | refine newI (fun b hb hn => ?_) | refine storeX 0 rfl Siz.eq rfl rfl (by simp [Value.oneCell']) (by simp) ?_ | refine storeX 1 rfl Siz.eq rfl rfl (by simp [Value.oneCell']) (by simp) ?_ | refine storeX 2 rfl Siz.eq rfl rfl (by simp [Value.oneCell']) (by simp) ?_ | refine storeX 3 rfl Siz.eq rfl rfl (by simp [Value.oneCell']) (by simp) ?_) <;> simp (disch:=omega) only[push_cast,Nat.reduceEqDiff,h2,h3,h23,h24]))
    refine ldAggF Shp.eq x3 rfl (out_of (fun p hp => Nat.lt_of_lt_of_le (Nat.lt_of_lt_of_le hbn hlo) (hL p hp))) ?_
    simp (disch:=omega) only[push_cast,Nat.reduceEqDiff,h2,h3,h23,h24]
    repeat' (first | ((first | refine guardX_t rfl (fun h => ?_) (fun h => ?_) | refine guardX_f rfl (fun h => ?_) (fun h => ?_) | refine condX_d (fun h => ?_) (fun h => ?_) | (refine guardX_bt rfl (fun h => ?_) (fun h => ?_) <;> (try subst h)) | (refine guardX_bf rfl (fun h => ?_) (fun h => ?_) <;> (try subst h)) | (refine condX_b (fun h => ?_) (fun h => ?_) <;> (try subst h)) | refine ldOne Shp.eq (by (first | exact mem0 | exact mem1 | exact mem2 | exact mem3)) rfl ?_ | refine loadX_agg Shp.eq (by (first | exact mem0 | exact mem1 | exact mem2 | exact mem3)) rfl rfl ?_ | refine newI (fun b hb hn => ?_) | refine storeX 0 rfl Siz.eq rfl rfl (by simp [Value.oneCell']) (by simp) ?_ | refine storeX 1 rfl Siz.eq rfl rfl (by simp [Value.oneCell']) (by simp) ?_ | refine storeX 2 rfl Siz.eq rfl rfl (by simp [Value.oneCell']) (by simp) ?_ | refine storeX 3 rfl Siz.eq rfl rfl (by simp [Value.oneCell']) (by simp) ?_) <;> simp (disch:=omega) only[push_cast,Nat.reduceEqDiff,h2,h3,h23,h24]))
    refine ldAggF Shp.eq y3 rfl (out_of (fun p hp => Nat.lt_of_lt_of_le (Nat.lt_of_lt_of_le hbn' hlo') (hL p hp))) ?_
    simp (disch:=omega) only[push_cast,Nat.reduceEqDiff,h2,h3,h23,h24,neq_note]
    rw [V_cond]
    simp (disch:=omega) only[push_cast,Nat.reduceEqDiff,h2,h3,h23,h24]
    exact ⟨i + 1,⟨rfl,rfl,rfl,by omega,h2,h3,h23,by simp only [upd]; rfl⟩,by omega⟩
  · simp (disch:=omega) only[push_cast,Nat.reduceEqDiff,h2,h3,h23,h24]
    exact finIs hL rfl
end Go.Proofs.YtdmdgkpjjpijdaaGreatDoor
