/- YtdmdgkpjjpijdaaGreatDoor: walks, part 26: the reference's: what is wrong with a field alone. -/
import Derived.Test.YtdmdgkpjjpijdaaGreatDoorW25
import Derived.Test.YtdmdgkpjjpijdaaGreatDoorW172
namespace Go.Proofs.YtdmdgkpjjpijdaaGreatDoor
open Go Go.K
set_option maxRecDepth 100000
set_option linter.unusedVariables false
set_option linter.unusedSimpArgs false
set_option maxHeartbeats 4000000
theorem checkFieldR_walk (w : World) (lo : Nat) (hlo : lo ≤ w.heap.size) (f : Fld) (a : Option Addr) (c : Nat) (hf : Rd w lo a f.sub) (hfc : f.sub.length ≤ c) (hc2 : c ≤ 9223372036854775807) (hfn : f.nm.length ≤ 9223372036854775807) :
    Calls Tryz.prog 51 #[.agg #[str f.nm,.bool f.nl,i64 f.k,i64 f.wd,i64 f.id,i64 f.ix,.slice a f.sub.length c]] w (RetsN w (fun v M => ∃ pa pc,v = .agg #[i64 (checkP [f] []).1,.slice pa (checkP [f] []).2.1.tail.length pc,i64 (checkP [f] []).2.2] ∧ (pa = none ∧ pc = 0 ∧ (checkP [f] []).2.1 = [] ∨ ∃ b cap cs,pa = some ⟨b,if cap = 1 then 0 else 1,none⟩ ∧ pc = cap - 1 ∧ (b,.cells cs 3 (0,0)) ∈ M ∧ RowIn [(b,.cells cs 3 (0,0))] 3 (.slice (some ⟨b,0,none⟩) (checkP [f] []).2.1.length cap) (checkP [f] []).2.1.length (ints (checkP [f] []).2.1)))) := by
  refine enterT (args := [.agg #[str f.nm,.bool f.nl,i64 f.k,i64 f.wd,i64 f.id,i64 f.ix,.slice a f.sub.length c]]) Tryz.func51 rfl Tryz.ntmps51 (congrArg Array.toList Tryz.results51) (by kernel_rfl) (by simp) (Sy.refl w) ?_
  simp (disch:=omega) only[push_cast,Nat.reduceEqDiff]
  refine newI (fun b1 hb1 hn1 => ?_)
  simp (disch:=omega) only[push_cast,Nat.reduceEqDiff]
  refine newI (fun b2 hb2 hn2 => ?_)
  simp (disch:=omega) only[push_cast,Nat.reduceEqDiff]
  refine loadX_agg sh_37 (.tail _ (.head _)) rfl rfl ?_
  simp (disch:=omega) only[push_cast,Nat.reduceEqDiff]
  refine bs_24_1 (newI fun b3 hb3 hn3 => ?_)
  have hL : ∀ p ∈ [(b3,Obj.cells #[str f.nm,.bool f.nl,i64 f.k,i64 f.wd,i64 f.id,i64 f.ix,.slice a f.sub.length c] 37 (0,0)),(b2,Obj.cells #[.int .i64 0,.slice none 0 0,.int .i64 0] 51 (0,0)),(b1,Obj.cells #[str f.nm,.bool f.nl,i64 f.k,i64 f.wd,i64 f.id,i64 f.ix,.slice a f.sub.length c] 37 (0,0))],w.heap.size ≤ p.1 := by
    intro p hp
    simp only [List.mem_cons,List.mem_nil_iff,or_false] at hp
    rcases hp with rfl | rfl | rfl <;> assumption
  simp (disch:=omega) only[push_cast,Nat.reduceEqDiff]
  refine callV en_24 (callX_newR (fun w' hw' => checkR_walk w' w'.heap.size (Nat.le_refl _) [f] (some ⟨b3,0,none⟩) 1 (.cons (hw'.lt (.head _)) hfc hfn hc2 (At.of_own hw' (.head _) rfl) ((hf.sy hlo hw' (fun p hp => Nat.le_trans hlo (hL p hp))).weaken (Nat.le_trans hlo hw'.size)) (.nil _)) (by simp) (by omega) [] none 0 (.inl rfl) (by simp) (by omega)) (fun v M hM hMn ⟨pa,pc,hv,hrow,hnil⟩ => ?_))
  subst hv
  simp (disch:=omega) only[push_cast,Nat.reduceEqDiff]
  refine newI (fun b4 hb4 hn4 => ?_)
  simp (disch:=omega) only[push_cast,Nat.reduceEqDiff]
  repeat' (first | ((first | refine guardX_t rfl (fun h => ?_) (fun h => ?_) | refine guardX_f rfl (fun h => ?_) (fun h => ?_) | refine condX_d (fun h => ?_) (fun h => ?_) | (refine guardX_bt rfl (fun h => ?_) (fun h => ?_) <;> (try subst h)) | (refine guardX_bf rfl (fun h => ?_) (fun h => ?_) <;> (try subst h)) | (refine condX_b (fun h => ?_) (fun h => ?_) <;> (try subst h)) | refine ldOne Shp.eq (by (first | exact mem0 | exact mem1 | exact mem2 | exact mem3)) rfl ?_ | refine loadX_agg Shp.eq (by (first | exact mem0 | exact mem1 | exact mem2 | exact mem3)) rfl rfl ?_ | refine newI (fun b hb hn => ?_) | refine storeX 0 rfl Siz.eq rfl rfl (by simp [Value.oneCell']) (by simp) ?_ | refine storeX 1 rfl Siz.eq rfl rfl (by simp [Value.oneCell']) (by simp) ?_ | refine storeX 2 rfl Siz.eq rfl rfl (by simp [Value.oneCell']) (by simp) ?_ | refine storeX 3 rfl Siz.eq rfl rfl (by simp [Value.oneCell']) (by simp) ?_) <;> simp (disch:=omega) only[push_cast,Nat.reduceEqDiff]))
  generalize checkP [f] [] = r at *
  have hnew : ∀ (x y z u : Obj),∀ p ∈ [(b4,x),(b3,y),(b2,z),(b1,u)],w.heap.size ≤ p.1 := by
    intro x y z u p hp
    simp only [List.mem_cons,List.mem_nil_iff,or_false] at hp
    rcases hp with rfl | rfl | rfl | rfl <;> assumption
  rw [V_cond]
  simp (disch:=omega) only[push_cast,Nat.reduceEqDiff]
  refine condX_d (fun hpos => ?_) (fun hneg => ?_)
  · obtain ⟨_,⟨he,h0⟩ | ⟨b,cap,cs,he,hm,h1,h2,h3,h4⟩⟩ := hrow
    · omega
    injection he with he1 he2 he3
    subst he1; subst he3
    simp (disch:=omega) only[push_cast,Nat.reduceEqDiff]
    repeat' (first | ((first | refine guardX_t rfl (fun h => ?_) (fun h => ?_) | refine guardX_f rfl (fun h => ?_) (fun h => ?_) | refine condX_d (fun h => ?_) (fun h => ?_) | (refine guardX_bt rfl (fun h => ?_) (fun h => ?_) <;> (try subst h)) | (refine guardX_bf rfl (fun h => ?_) (fun h => ?_) <;> (try subst h)) | (refine condX_b (fun h => ?_) (fun h => ?_) <;> (try subst h)) | refine ldOne Shp.eq (by (first | exact mem0 | exact mem1 | exact mem2 | exact mem3)) rfl ?_ | refine loadX_agg Shp.eq (by (first | exact mem0 | exact mem1 | exact mem2 | exact mem3)) rfl rfl ?_ | refine newI (fun b hb hn => ?_) | refine storeX 0 rfl Siz.eq rfl rfl (by simp [Value.oneCell']) (by simp) ?_ | refine storeX 1 rfl Siz.eq rfl rfl (by simp [Value.oneCell']) (by simp) ?_ | refine storeX 2 rfl Siz.eq rfl rfl (by simp [Value.oneCell']) (by simp) ?_ | refine storeX 3 rfl Siz.eq rfl rfl (by simp [Value.oneCell']) (by simp) ?_) <;> simp (disch:=omega) only[push_cast,Nat.reduceEqDiff]))
    refine fun w' hw' => ⟨_,M,rfl,hw'.left (A := [_,_,_,_]) (hnew _ _ _ _),hM,some ⟨b,if pc = 1 then 0 else 1,none⟩,pc - 1,?_,.inr ⟨b,pc,cs.toArray,rfl,rfl,hm,?_⟩⟩
    · rw [List.length_tail]
    · exact ⟨by simp [ints],.inr ⟨b,pc,cs,rfl,.head _,h1,h2,h3,h4⟩⟩
  · simp (disch:=omega) only[push_cast,Nat.reduceEqDiff]
    repeat' (first | ((first | refine guardX_t rfl (fun h => ?_) (fun h => ?_) | refine guardX_f rfl (fun h => ?_) (fun h => ?_) | refine condX_d (fun h => ?_) (fun h => ?_) | (refine guardX_bt rfl (fun h => ?_) (fun h => ?_) <;> (try subst h)) | (refine guardX_bf rfl (fun h => ?_) (fun h => ?_) <;> (try subst h)) | (refine condX_b (fun h => ?_) (fun h => ?_) <;> (try subst h)) | refine ldOne Shp.eq (by (first | exact mem0 | exact mem1 | exact mem2 | exact mem3)) rfl ?_ | refine loadX_agg Shp.eq (by (first | exact mem0 | exact mem1 | exact mem2 | exact mem3)) rfl rfl ?_ | refine newI (fun b hb hn => ?_) | refine storeX 0 rfl Siz.eq rfl rfl (by simp [Value.oneCell']) (by simp) ?_ | refine storeX 1 rfl Siz.eq rfl rfl (by simp [Value.oneCell']) (by simp) ?_ | refine storeX 2 rfl Siz.eq rfl rfl (by simp [Value.oneCell']) (by simp) ?_ | refine storeX 3 rfl Siz.eq rfl rfl (by simp [Value.oneCell']) (by simp) ?_) <;> simp (disch:=omega) only[push_cast,Nat.reduceEqDiff]))
    have hr0 : r.2.1 = [] := List.eq_nil_of_length_eq_zero (by omega)
    obtain ⟨rfl,rfl⟩ := hnil hr0
    refine fun w' hw' => ⟨_,M,rfl,hw'.left (A := [_,_,_,_]) (hnew _ _ _ _),hM,none,0,?_,.inl ⟨rfl,rfl,hr0⟩⟩
    rw [hr0]
    rfl
end Go.Proofs.YtdmdgkpjjpijdaaGreatDoor
namespace Go.K
open Go
variable {P : Program} {wb : World} {L : Own}
def endC (Q : World → Own → Prop) : Post
  | .ret,wb,e,ds,L | .normal,wb,e,ds,L => ds = [] ∧ Q wb L
  | _,_,_,_,_ => False
@[push_cast] theorem endC_ret {Q : World → Own → Prop} {e : Env} {ds : List Deferred} : endC Q .ret wb e ds L = (ds = [] ∧ Q wb L) := (rfl)
@[push_cast] theorem endC_normal {Q : World → Own → Prop} {e : Env} {ds : List Deferred} : endC Q .normal wb e ds L = (ds = [] ∧ Q wb L) := (rfl)
theorem callsD_rec {f : FuncId} {fn : Func} {rest : Code} {id n : Nat} {ops : Array Oper} {o0 o1 : Oper} {t0 t1 : Nat} {args : List Value} {u u2 : FrameMode} {v : Value} {w : World} {R : Ending → FrameMode → World → Prop}
    (hf : P.funcs[f]? = some fn) (hb : fn.body = some (.seq (.region id ops false) rest)) (hn : fn.ntmps = n) (hrs : fn.results = #[]) (hops : ops = #[o0,o1])
    (hg0 : o0.guard = none) (hg1 : o1.guard = none) (hr0 : ∀ ev w,(execOp ev o0).run P w = .ok .recover w) (hr1 : ∀ ev w,(execOp ev o1).run P w = .ok (.value (ev (.tmp t0))) w)
    (hd0 : o0.dst = some t0) (hd1 : o1.dst = some t1) (ht0 : t0 < n) (ht1 : t1 < n) (hsz : args.length ≤ n) (hok : okCode n rest = true)
    (hu : (u = .returning ∧ v = .nilIface ∧ u2 = .returning) ∨ ∃ x older,v = x ∧ u = .panicking ({ v := v,recovered := false } :: older) ∧ u2 = .panicking ({ v := v,recovered := true } :: older))
    (hw : Sy wb L w)
    (h : VT ⟨P,n,none⟩ (tag rest) (tag (endC (fun wb L => ∀ w,Sy wb L w → R (.returned (.tuple #[])) u2 w))) wb (upd (upd (env0 args) t0 v) t1 v) [] L) : CallsD P f args.toArray u w R := by
  subst hn hops
  refine callsD_of_wpS hf hb fun c₀ cs hc => ?_
  apply wpS_seq
  apply wpS_region
  have hw0 : ∀ y,Region.wanted o0 y = true := fun y => by simp [Region.wanted,hg0]
  have hw1 : ∀ y,Region.wanted o1 y = true := fun y => by simp [Region.wanted,hg1]
  have r0 := rep0 (n := fn.ntmps) (args := args) hsz
  have r1 := r0.put (ds' := []) (some t0) (fun k hk => by cases hk; exact ht0) v
  have r2 := r1.put (ds' := []) (some t1) (fun k hk => by cases hk; exact ht1) v
  have hev : ∀ (a : Act) (e : Env),Rep fn.ntmps a (puto e (some t0) v) [] → a.eval (.tmp t0) = v := fun a e hr => by rw [hr.eval]; show (upd e t0 v) t0 = v; simp [upd]
  have main : ∀ a,Rep fn.ntmps a (upd (upd (env0 args) t0 v) t1 v) [] → rest.wpS P (bodyPostS P fn c₀ cs R) a ({ c₀ with mode := u2 } :: cs) w := fun a hr => by
    refine wpS_of_wp ((wpIn_wide (n := 0)).1 (wpIn_mono (V_sound (c := ⟨P,fn.ntmps,none⟩) rest _ wb _ [] L hok h a w hr hw) ?_))
    rintro x a' w' ⟨wb',e',ds',L',hr',hw',hq⟩
    cases x with
    | normal => exact ⟨hr'.defers.trans hq.1,u2,rfl,.tuple #[],by simp [results,hrs],hq.2 w' hw'⟩
    | ret => exact ⟨hr'.defers.trans hq.1,u2,rfl,.tuple #[],by simp [results,hrs],hq.2 w' hw'⟩
    | panic ch => exact hq.elim
    | exit id => exact hq.elim
    | goto l => exact hq.elim
    | outgrown => exact hq.elim
  have hrange : List.range (#[o0,o1] : Array Oper).size = [0,1] := rfl
  rw [hrange]
  rcases hu with ⟨rfl,rfl,rfl⟩ | ⟨x,older,rfl,rfl,rfl⟩
  · have hc0 : ({ c₀ with mode := FrameMode.returning } : Frame) = c₀ := by cases c₀; simp_all
    rw [hc0] at main
    simp only [wpOpsS,hw0,hw1,if_true,hr0,hr1,recoverD,hc,Oper.upon,hd0,hd1,List.getElem?_toArray,List.getElem?_cons_zero,List.getElem?_cons_succ]
    simp only [Exit.thenS]
    refine main _ ?_
    rw [hev _ _ r1]
    exact r2
  · simp only [wpOpsS,hw0,hw1,if_true,hr0,hr1,recoverD,hc,Oper.upon,hd0,hd1,List.getElem?_toArray,List.getElem?_cons_zero,List.getElem?_cons_succ]
    simp only [Exit.thenS]
    refine main _ ?_
    rw [hev _ _ r1]
    exact r2
end Go.K
namespace Go.Proofs.YtdmdgkpjjpijdaaGreatDoor
open Go Go.K
set_option maxRecDepth 100000
set_option linter.unusedVariables false
set_option linter.unusedSimpArgs false
set_option maxHeartbeats 4000000
theorem parseC_idle (wb w : World) (L : Own) (hw : Sy wb L w) (v1 v2 v3 : Value) :
    CallsD Tryz.prog 33 #[v1,v2,v3] .returning w fun e' u' w' => e' = .returned (.tuple #[]) ∧ u' = .returning ∧ Sy wb L w' := by
  refine callsD_rec (args := [v1,v2,v3]) Tryz.func33 rfl Tryz.ntmps33 Tryz.results33 rfl rfl rfl (fun ev w => rfl) (fun ev w => rfl) rfl rfl (by omega) (by omega) (by simp) (by kernel_rfl) (.inl ⟨rfl,rfl,rfl⟩) hw ?_
  simp (disch:=omega) only[push_cast,Nat.reduceEqDiff]
  refine Eq.mpr (px (v := .bool false) (fun w => by rfl) _) ?_
  simp (disch:=omega) only[push_cast,Nat.reduceEqDiff]
  rw [V_cond]
  simp (disch:=omega) only[push_cast,Nat.reduceEqDiff]
  exact fun w hw => hw
abbrev oFa (b : Nat) (q : Nat) : Nat × Obj := (b,Obj.cells #[i64 q] 69 (0,0))
abbrev oEr (b : Nat) (e : Int) : Nat × Obj := (b,Obj.cells #[i64 e] 28 (0,0))
abbrev oIn (b : Nat) (q : Int) : Nat × Obj := (b,Obj.cells #[i64 q] 3 (0,0))
abbrev oSc (b : Nat) (x y : Value) : Nat × Obj := (b,Obj.cells #[x,y] 27 (0,0))
theorem parseC_back (wb w : World) (M : Own) (b1 b2 b3 : Nat) (x y : Value) (e q0 : Int) (q : Nat) (h1 : wb.heap.size ≤ b1) (h2 : wb.heap.size ≤ b2) (h3 : wb.heap.size ≤ b3) (hM : ∀ b ∈ M,wb.heap.size ≤ b.1) (hw : Sy wb (oSc b1 x y :: oEr b2 e :: oIn b3 q0 :: M) w) :
    CallsD Tryz.prog 33 #[.pointer (some ⟨b1,0,none⟩),.pointer (some ⟨b2,0,none⟩),.pointer (some ⟨b3,0,none⟩)] (.panicking [faultE q]) w fun e' u' w' => e' = .returned (.tuple #[]) ∧ settle u' = .returning ∧ ∃ b4,wb.heap.size ≤ b4 ∧ Sy wb (oFa b4 q :: oSc b1 (.slice none 0 0) (.slice none 0 0) :: oEr b2 8 :: oIn b3 q :: M) w' := by
  refine callsD_rec (args := [.pointer (some ⟨b1,0,none⟩),.pointer (some ⟨b2,0,none⟩),.pointer (some ⟨b3,0,none⟩)]) Tryz.func33 rfl Tryz.ntmps33 Tryz.results33 rfl rfl rfl (fun ev w => rfl) (fun ev w => rfl) rfl rfl (by omega) (by omega) (by simp) (by kernel_rfl) (.inr ⟨_,_,rfl,rfl,rfl⟩) hw ?_
  simp (disch:=omega) only[push_cast,Nat.reduceEqDiff]
  refine Eq.mpr (px (v := .bool true) (fun w => by rfl) _) ?_
  simp (disch:=omega) only[push_cast,Nat.reduceEqDiff]
  rw [V_cond]
  simp (disch:=omega) only[push_cast,Nat.reduceEqDiff]
  refine Eq.mpr (px (v := .tuple #[.agg #[i64 q],.bool true]) (fun w => by rfl) _) ?_
  simp (disch:=omega) only[push_cast,Nat.reduceEqDiff]
  refine newI (fun b4 hb4 hn4 => ?_)
  simp (disch:=omega) only[push_cast,Nat.reduceEqDiff]
  refine storeX 0 rfl Siz.eq rfl rfl (by simp [Value.oneCell']) (by simp) ?_
  simp (disch:=omega) only[push_cast,Nat.reduceEqDiff]
  rw [V_cond]
  simp (disch:=omega) only[push_cast,Nat.reduceEqDiff]
  refine condX_b (fun h => by cases h) (fun _ => ?_)
  simp (disch:=omega) only[push_cast,Nat.reduceEqDiff]
  have hst : ∀ (x y : Value) (e q0 : Int),Stab wb (oFa b4 q :: oSc b1 x y :: oEr b2 e :: oIn b3 q0 :: M) [oFa b4 q] := fun x y e q0 => Stab.of (.cons_cons _ (List.nil_sublist _)) (fun b hb => by
    simp only [List.mem_cons] at hb
    rcases hb with rfl | rfl | rfl | rfl | hb
    · exact hb4
    · exact h1
    · exact h2
    · exact h3
    · exact hM b hb)
  refine freeT [0,1,2] [3,4,5] [oFa b4 q] (by kernel_rfl) mixed (by kernel_rfl) (hst _ _ _ _) ?_
  simp (disch:=omega) only[push_cast,Nat.reduceEqDiff]
  refine ldOne Shp.eq mem0 rfl ?_
  simp (disch:=omega) only[push_cast,Nat.reduceEqDiff]
  refine storeX 1 rfl Siz.eq rfl rfl (by simp [Value.oneCell']) (by simp) ?_
  simp (disch:=omega) only[push_cast,Nat.reduceEqDiff]
  refine ⟨hst _ _ _ _,storeX 2 rfl Siz.eq rfl rfl (by simp [Value.oneCell']) (by simp) ?_⟩
  simp (disch:=omega) only[push_cast,Nat.reduceEqDiff]
  refine ⟨hst _ _ _ _,storeX 3 rfl Siz.eq rfl rfl (by simp [Value.oneCell']) (by simp) ?_⟩
  simp (disch:=omega) only[push_cast,Nat.reduceEqDiff]
  exact ⟨hst _ _ _ _,fun w hw => ⟨rfl,b4,hb4,hw⟩⟩
theorem fieldC_idle (wb w : World) (L : Own) (hw : Sy wb L w) (v1 v2 v3 : Value) :
    CallsD Tryz.prog 47 #[v1,v2,v3] .returning w fun e' u' w' => e' = .returned (.tuple #[]) ∧ u' = .returning ∧ Sy wb L w' := by
  refine callsD_rec (args := [v1,v2,v3]) Tryz.func47 rfl Tryz.ntmps47 Tryz.results47 rfl rfl rfl (fun ev w => rfl) (fun ev w => rfl) rfl rfl (by omega) (by omega) (by simp) (by kernel_rfl) (.inl ⟨rfl,rfl,rfl⟩) hw ?_
  simp (disch:=omega) only[push_cast,Nat.reduceEqDiff]
  refine Eq.mpr (px (v := .bool false) (fun w => by rfl) _) ?_
  simp (disch:=omega) only[push_cast,Nat.reduceEqDiff]
  rw [V_cond]
  simp (disch:=omega) only[push_cast,Nat.reduceEqDiff]
  exact fun w hw => hw
theorem fieldC_back (wb w : World) (M : Own) (b1 b2 b3 : Nat) (g : Fld) (a : Option Addr) (c : Nat) (e q0 : Int) (q : Nat) (h1 : wb.heap.size ≤ b1) (h2 : wb.heap.size ≤ b2) (h3 : wb.heap.size ≤ b3) (hM : ∀ b ∈ M,wb.heap.size ≤ b.1) (hw : Sy wb (oFi b1 g a c :: oEr b2 e :: oIn b3 q0 :: M) w) :
    CallsD Tryz.prog 47 #[.pointer (some ⟨b1,0,none⟩),.pointer (some ⟨b2,0,none⟩),.pointer (some ⟨b3,0,none⟩)] (.panicking [faultE q]) w fun e' u' w' => e' = .returned (.tuple #[]) ∧ settle u' = .returning ∧ ∃ b4,wb.heap.size ≤ b4 ∧ Sy wb (oFa b4 q :: oFi b1 noF none 0 :: oEr b2 8 :: oIn b3 q :: M) w' := by
  refine callsD_rec (args := [.pointer (some ⟨b1,0,none⟩),.pointer (some ⟨b2,0,none⟩),.pointer (some ⟨b3,0,none⟩)]) Tryz.func47 rfl Tryz.ntmps47 Tryz.results47 rfl rfl rfl (fun ev w => rfl) (fun ev w => rfl) rfl rfl (by omega) (by omega) (by simp) (by kernel_rfl) (.inr ⟨_,_,rfl,rfl,rfl⟩) hw ?_
  simp (disch:=omega) only[push_cast,Nat.reduceEqDiff]
  refine Eq.mpr (px (v := .bool true) (fun w => by rfl) _) ?_
  simp (disch:=omega) only[push_cast,Nat.reduceEqDiff]
  rw [V_cond]
  simp (disch:=omega) only[push_cast,Nat.reduceEqDiff]
  refine Eq.mpr (px (v := .tuple #[.agg #[i64 q],.bool true]) (fun w => by rfl) _) ?_
  simp (disch:=omega) only[push_cast,Nat.reduceEqDiff]
  refine newI (fun b4 hb4 hn4 => ?_)
  simp (disch:=omega) only[push_cast,Nat.reduceEqDiff]
  refine storeX 0 rfl Siz.eq rfl rfl (by simp [Value.oneCell']) (by simp) ?_
  simp (disch:=omega) only[push_cast,Nat.reduceEqDiff]
  rw [V_cond]
  simp (disch:=omega) only[push_cast,Nat.reduceEqDiff]
  refine condX_b (fun h => by cases h) (fun _ => ?_)
  simp (disch:=omega) only[push_cast,Nat.reduceEqDiff]
  have hst : ∀ (o : Obj) (e q0 : Int),Stab wb (oFa b4 q :: (b1,o) :: oEr b2 e :: oIn b3 q0 :: M) [oFa b4 q] := fun o e q0 => Stab.of (.cons_cons _ (List.nil_sublist _)) (fun b hb => by
    simp only [List.mem_cons] at hb
    rcases hb with rfl | rfl | rfl | rfl | hb
    · exact hb4
    · exact h1
    · exact h2
    · exact h3
    · exact hM b hb)
  refine freeT [0,1,2] [3,4,5] [oFa b4 q] (by kernel_rfl) mixed (by kernel_rfl) (hst _ _ _) ?_
  simp (disch:=omega) only[push_cast,Nat.reduceEqDiff]
  refine ldOne Shp.eq mem0 rfl ?_
  simp (disch:=omega) only[push_cast,Nat.reduceEqDiff]
  refine storeX 1 rfl Siz.eq rfl rfl (by simp [Value.oneCell']) (by simp) ?_
  simp (disch:=omega) only[push_cast,Nat.reduceEqDiff]
  refine ⟨hst _ _ _,storeX 2 rfl Siz.eq rfl rfl (by simp [Value.oneCell']) (by simp) ?_⟩
  simp (disch:=omega) only[push_cast,Nat.reduceEqDiff]
  refine ⟨hst _ _ _,storeX 3 rfl Siz.eq rfl rfl (by simp [Value.oneCell']) (by simp) ?_⟩
  simp (disch:=omega) only[push_cast,Nat.reduceEqDiff]
  exact ⟨hst _ _ _,fun w hw => ⟨rfl,b4,hb4,hw⟩⟩
end Go.Proofs.YtdmdgkpjjpijdaaGreatDoor
namespace Go.Proofs.YtdmdgkpjjpijdaaGreatDoor
open Go Go.K
set_option maxRecDepth 100000
set_option linter.unusedVariables false
set_option linter.unusedSimpArgs false
set_option maxHeartbeats 4000000
def PfV (r : PF) (v : Value) (M : Own) : Prop := ∃ (a : Option Addr) (c : Nat) (K : Own),v = .tuple #[.agg (r.f.cells a c).toArray,i64 r.e,i64 r.at_] ∧ OwF r.f K a c ∧ ∀ b ∈ K,b ∈ M
theorem pEnd_no {α β : Type} {s : List UInt8} {x : α} {y : β} {q r : Nat} (h : pEnd s x q = .no r) : pEnd s y q = .no r := by
  unfold pEnd at h ⊢
  split at h
  · rename_i h1; rw [if_pos h1]; cases h; rfl
  · cases h
theorem pEnd_ok {α β : Type} {s : List UInt8} {x x' : α} {y : β} {q r : Nat} (h : pEnd s x q = .ok x' r) : pEnd s y q = .ok y r := by
  unfold pEnd at h ⊢
  split at h
  · cases h
  · rename_i h1; rw [if_neg h1]; cases h; rfl
theorem own_noF : OwF noF [] none 0 := OwS.toF (f := noF) ((OwS_iff _ _ _ _).2 (.inl ⟨rfl,rfl,rfl,rfl⟩)) (by simp [noF,Fld.nm])
end Go.Proofs.YtdmdgkpjjpijdaaGreatDoor
namespace Go.Proofs.YtdmdgkpjjpijdaaGreatDoor
open Go Go.K
set_option maxRecDepth 100000
set_option linter.unusedVariables false
set_option linter.unusedSimpArgs false
set_option maxHeartbeats 4000000
structure BqI (w0 : World) (rb : Nat) (wb : World) (e : Env) (ds : List Deferred) (L : Own) : Prop where
  hw : wb = w0
  hds : ds = []
  h0 : e 0 = .pointer (some ⟨rb,0,none⟩)
  o : L = []
theorem blanks_quiet (w : World) (rb : Nat) (s : List UInt8) (p : Nat) (hs : s.length ≤ 65536) (hp : p ≤ s.length) (hq : blP s p = p) (hat : At w rb 0 [str s,i64 p]) :
    Calls Tryz.prog 34 #[.pointer (some ⟨rb,0,none⟩)] w (Rets w (Is (.tuple #[]))) := by
  have h1 : At w rb 0 [str s] := hat.sub 0 _ rfl
  have h2 : At w rb 1 [i64 p] := hat.sub 1 _ rfl
  refine enterB (args := [.pointer (some ⟨rb,0,none⟩)]) Tryz.func34 rfl Tryz.ntmps34 (congrArg Array.toList Tryz.results34) (by kernel_rfl) (by simp) (Sy.refl w) ?_
  simp (disch:=omega) only[push_cast,Nat.reduceEqDiff]
  rw [V_block]
  simp (disch:=omega) only[push_cast,Nat.reduceEqDiff]
  refine loopW (G := Nat) (fun _ => BqI w rb) (fun i => i) 0 _ (fun w hw => hw) (by kernel_rfl) ⟨rfl,rfl,rfl,rfl⟩ ?_
  rintro i wb e ds L ⟨rfl,rfl,h0,rfl⟩
  simp (disch:=omega) only[push_cast,Nat.reduceEqDiff,h0]
  refine drawQT (by kernel_rfl) (by kernel_rfl) mixed (by kernel_rfl) ?_
  simp (disch:=omega) only[push_cast,Nat.reduceEqDiff,h0]
  refine ldF Shp.eq h2 (by simp) ?_
  simp (disch:=omega) only[push_cast,Nat.reduceEqDiff,h0]
  refine ldF Shp.eq h1 (by simp) ?_
  simp (disch:=omega) only[push_cast,Nat.reduceEqDiff,h0]
  refine guardX_t rfl (fun hlt => ?_) (fun hge => ?_)
  · simp (disch:=omega) only[push_cast,Nat.reduceEqDiff,h0]
    refine ldF Shp.eq h1 (by simp) ?_
    simp (disch:=omega) only[push_cast,Nat.reduceEqDiff,h0]
    refine ldF Shp.eq h2 (by simp) ?_
    simp (disch:=omega) only[push_cast,Nat.reduceEqDiff,h0]
    refine qcallV en_71 (qcallX_is _ (fun w' hw' => indexByte_walk w' [32,9,10] (s.getD p 0)) ?_)
    simp (disch:=omega) only[push_cast,Nat.reduceEqDiff,h0]
    rw [V_cond]
    simp (disch:=omega) only[push_cast,Nat.reduceEqDiff,h0]
    have hat := getD_at (s := s) (i := p) (by omega)
    refine condX_d (fun hb => ?_) (fun hb => ?_)
    · have hb2 := (blank_index _).1 hb
      have := runP_step hat hb2
      have h3 : p + 1 ≤ blP s (p + 1) := runP_ge _ _ _
      unfold blP at hq h3
      omega
    · simp (disch:=omega) only[push_cast,Nat.reduceEqDiff,h0]
      exact fun w' hw' => ⟨_,rfl,hw',rfl⟩
  · simp (disch:=omega) only[push_cast,Nat.reduceEqDiff,h0]
    rw [V_cond]
    simp (disch:=omega) only[push_cast,Nat.reduceEqDiff,h0]
    exact fun w' hw' => ⟨_,rfl,hw',rfl⟩
theorem is_quiet (w : World) (rb : Nat) (s : List UInt8) (p : Nat) (c : UInt8) (ci : Int) (hc : ci = c.toNat) (hs : s.length ≤ 65536) (hp : p ≤ s.length) (hq : blP s p = p) (hat : At w rb 0 [str s,i64 p]) :
    Calls Tryz.prog 35 #[.pointer (some ⟨rb,0,none⟩),.int .u8 ci] w (Rets w (Is (.bool (decide (s[p]? = some c))))) := by
  subst hc
  have h1 : At w rb 0 [str s] := hat.sub 0 _ rfl
  have h2 : At w rb 1 [i64 p] := hat.sub 1 _ rfl
  refine enterB (args := [.pointer (some ⟨rb,0,none⟩),.int .u8 (c.toNat : Int)]) Tryz.func35 rfl Tryz.ntmps35 (congrArg Array.toList Tryz.results35) (by kernel_rfl) (by simp) (Sy.refl w) ?_
  simp (disch:=omega) only[push_cast,Nat.reduceEqDiff]
  refine callV en_34 (callX_is (fun w' hw' => blanks_quiet w' rb s p hs hp hq (hat.of_block (hw'.rest _ hat.lt (by simp)))) ?_)
  simp (disch:=omega) only[push_cast,Nat.reduceEqDiff]
  refine drawQT (by kernel_rfl) (by kernel_rfl) mixed (by kernel_rfl) ?_
  simp (disch:=omega) only[push_cast,Nat.reduceEqDiff]
  refine ldF Shp.eq h2 (by simp) ?_
  simp (disch:=omega) only[push_cast,Nat.reduceEqDiff]
  refine ldF Shp.eq h1 (by simp) ?_
  simp (disch:=omega) only[push_cast,Nat.reduceEqDiff]
  refine guardX_t rfl (fun hlt => ?_) (fun hge => ?_)
  · simp (disch:=omega) only[push_cast,Nat.reduceEqDiff]
    refine ldF Shp.eq h1 (by simp) ?_
    simp (disch:=omega) only[push_cast,Nat.reduceEqDiff]
    refine ldF Shp.eq h2 (by simp) ?_
    simp (disch:=omega) only[push_cast,Nat.reduceEqDiff]
    have hg := get_iff (s := s) (q := p) (c := c) (by omega)
    refine fun w' hw' => ⟨_,rfl,hw',?_⟩
    simp only [hg]
  · simp (disch:=omega) only[push_cast,Nat.reduceEqDiff]
    refine fun w' hw' => ⟨_,rfl,hw',?_⟩
    have hn := get_none (s := s) (q := p) (c := c) (by omega)
    simp [hn]
end Go.Proofs.YtdmdgkpjjpijdaaGreatDoor
