/- YtdmdgkpjjpijdaaGreatDoor: the walk calculus: calls that may panic; functions with one deferred closure. -/
import Derived.Test.YtdmdgkpjjpijdaaGreatDoorKs
import Derived.Defers
import Derived.Recover
import Derived.Test.YtdmdgkpjjpijdaaGreatDoorKp
import Derived.Laws.MakeOwn
import Derived.RangeFuncRecord
namespace Go.K
open Go
variable {P : Program} {wb : World} {L : Own} {Kp : KP}
theorem callX_pan {f : FuncId} {args : Array Value} {S : Value → Own → Prop} {SP : List PanicEntry → Own → Prop} {K : Value → World → Own → Prop} (h : ∀ w,Sy wb L w → Calls P f args w (fun e w' => (∃ v L',e = .returned v ∧ Sy wb L' w' ∧ S v L') ∨ (∃ ch L',e = .panicked ch ∧ Sy wb L' w' ∧ SP ch L')))
    (hk : ∀ v L',S v L' → K v wb L') (hp : ∀ ch L',SP ch L' → Kp ch wb L') : CallX P f args wb L (tag K) (tag Kp) := fun w hw =>
  (h w hw).mono fun e w' hx => by
    rcases hx with ⟨v,L',rfl,hs,hv⟩ | ⟨ch,L',rfl,hs,hv⟩
    · exact ⟨wb,L',hs,hk v L' hv⟩
    · exact ⟨wb,L',hs,hp ch L' hv⟩
def retD (P : Program) (rs : List ResultVar) {R : Ending → World → Prop} (_ : Tag R) : Post
  | .ret,wb,e,ds,L | .normal,wb,e,ds,L =>
    (ds = [] ∧ ResL P wb L e rs fun vs => ∀ w,Sy wb L w → R (.returned (tup vs)) w) ∨
    (∃ (g : FuncId) (cap : Array Value),ds = [{ target := .fn (.func g) cap,args := #[] }] ∧ entersB P g = true ∧
      ∀ w,Sy wb L w → CallsD P g cap .returning w fun e' u' w' => e' = .returned (.tuple #[]) ∧ u' = .returning ∧ ∃ L',Sy wb L' w' ∧ ResL P wb L' e rs fun vs => ∀ w,Sy wb L' w → R (.returned (tup vs)) w)
  | .panic ch,wb,e,ds,L =>
    (ds = [] ∧ ∀ w,Sy wb L w → R (.panicked ch) w) ∨
    (∃ (g : FuncId) (cap : Array Value),ds = [{ target := .fn (.func g) cap,args := #[] }] ∧ entersB P g = true ∧
      ∀ w,Sy wb L w → CallsD P g cap (.panicking ch) w fun e' u' w' => e' = .returned (.tuple #[]) ∧ settle u' = .returning ∧ ∃ L',Sy wb L' w' ∧ ResL P wb L' e rs fun vs => ∀ w,Sy wb L' w → R (.returned (tup vs)) w)
  | _,_,_,_,_ => False
@[push_cast] theorem retD_ret {rs : List ResultVar} {R : Ending → World → Prop} {e : Env} {ds : List Deferred} : retD P rs (tag R) .ret wb e ds L = ((ds = [] ∧ ResL P wb L e rs fun vs => ∀ w,Sy wb L w → R (.returned (tup vs)) w) ∨
    (∃ (g : FuncId) (cap : Array Value),ds = [{ target := .fn (.func g) cap,args := #[] }] ∧ entersB P g = true ∧
      ∀ w,Sy wb L w → CallsD P g cap .returning w fun e' u' w' => e' = .returned (.tuple #[]) ∧ u' = .returning ∧ ∃ L',Sy wb L' w' ∧ ResL P wb L' e rs fun vs => ∀ w,Sy wb L' w → R (.returned (tup vs)) w)) := (rfl)
@[push_cast] theorem retD_normal {rs : List ResultVar} {R : Ending → World → Prop} {e : Env} {ds : List Deferred} : retD P rs (tag R) .normal wb e ds L = ((ds = [] ∧ ResL P wb L e rs fun vs => ∀ w,Sy wb L w → R (.returned (tup vs)) w) ∨
    (∃ (g : FuncId) (cap : Array Value),ds = [{ target := .fn (.func g) cap,args := #[] }] ∧ entersB P g = true ∧
      ∀ w,Sy wb L w → CallsD P g cap .returning w fun e' u' w' => e' = .returned (.tuple #[]) ∧ u' = .returning ∧ ∃ L',Sy wb L' w' ∧ ResL P wb L' e rs fun vs => ∀ w,Sy wb L' w → R (.returned (tup vs)) w)) := (rfl)
@[push_cast] theorem retD_panic {rs : List ResultVar} {R : Ending → World → Prop} {e : Env} {ds : List Deferred} (ch : List PanicEntry) : retD P rs (tag R) (.panic ch) wb e ds L = ((ds = [] ∧ ∀ w,Sy wb L w → R (.panicked ch) w) ∨
    (∃ (g : FuncId) (cap : Array Value),ds = [{ target := .fn (.func g) cap,args := #[] }] ∧ entersB P g = true ∧
      ∀ w,Sy wb L w → CallsD P g cap (.panicking ch) w fun e' u' w' => e' = .returned (.tuple #[]) ∧ settle u' = .returning ∧ ∃ L',Sy wb L' w' ∧ ResL P wb L' e rs fun vs => ∀ w,Sy wb L' w → R (.returned (tup vs)) w)) := (rfl)
theorem enterD {f : FuncId} {fn : Func} {code : Code} {args : List Value} {w : World} {R : Ending → World → Prop} (hf : P.funcs[f]? = some fn) (hb : fn.body = some code) {rs : List ResultVar} {n : Nat} (hn : fn.ntmps = n) (hrs : fn.results.toList = rs) (hok : okCode n code = true) (hsz : args.length ≤ n)
    (hL : Sy wb L w) (h : VT ⟨P,n,none⟩ (tag code) (tag (retD P rs (tag R))) wb (env0 args) [] L) : Calls P f args.toArray w R := by
  subst hn
  refine calls_of_wp_defers hf hb ((wpIn_wide (n := 0)).1 (wpIn_mono (V_sound (c := ⟨P,fn.ntmps,none⟩) code _ wb _ [] L hok h { tmps := args.toArray ++ Array.replicate (fn.ntmps - args.toArray.size) undef,defers := [] } w (rep0 hsz) hL) ?_))
  have hret : ∀ (a : Act) (w' : World) (wb' : World) (e' : Env) (ds' : List Deferred) (L' : Own),Rep fn.ntmps a e' ds' → Sy wb' L' w' → retD P rs (tag R) .ret wb' e' ds' L' → Leaves P fn a.tmps R a.defers .returning w' := by
    intro a w' wb' e' ds' L' hr' hw' hq
    have hr0 : Rep fn.ntmps { tmps := a.tmps,defers := [] } e' [] := ⟨hr'.size,hr'.get,rfl⟩
    rcases hq with ⟨hd,hq⟩ | ⟨g,cap,hd,hg,hq⟩
    · rw [hr'.defers,hd]
      obtain ⟨vs,hk,hrun⟩ := results_run (fn := fn) hr0 hw' (by rw [hrs]; exact hq)
      exact ⟨_,hrun,hk w' hw'⟩
    · rw [hr'.defers,hd]
      refine leaves_cons (f := g) (args := cap) (by simp) (by simpa [invoke] using enters_run hg cap w') ((hq w' hw').mono ?_)
      rintro e'' u' w'' ⟨rfl,rfl,L'',hs,hq2⟩
      obtain ⟨vs,hk,hrun⟩ := results_run (fn := fn) hr0 hs (by rw [hrs]; exact hq2)
      exact ⟨_,hrun,hk w'' hs⟩
  rintro x a w' ⟨wb',e',ds',L',hr',hw',hq⟩
  cases x with
  | normal => exact hret a w' wb' e' ds' L' hr' hw' hq
  | ret => exact hret a w' wb' e' ds' L' hr' hw' hq
  | panic ch =>
    have hr0 : Rep fn.ntmps { tmps := a.tmps,defers := [] } e' [] := ⟨hr'.size,hr'.get,rfl⟩
    show Leaves P fn a.tmps R a.defers (.panicking ch) w'
    rcases hq with ⟨hd,hq⟩ | ⟨g,cap,hd,hg,hq⟩
    · rw [hr'.defers,hd]
      exact hq w' hw'
    · rw [hr'.defers,hd]
      refine leaves_cons (f := g) (args := cap) (by simp) (by simpa [invoke] using enters_run hg cap w') ((hq w' hw').mono ?_)
      rintro e'' u' w'' ⟨rfl,hu,L'',hs,hq2⟩
      show Leaves P fn a.tmps R [] (settle u') w''
      rw [hu]
      obtain ⟨vs,hk,hrun⟩ := results_run (fn := fn) hr0 hs (by rw [hrs]; exact hq2)
      exact ⟨_,hrun,hk w'' hs⟩
  | exit id => exact hq.elim
  | goto l => exact hq.elim
  | outgrown => exact hq.elim
end Go.K
namespace Go.Proofs.YtdmdgkpjjpijdaaGreatDoor
open Go Go.K
set_option linter.unusedVariables false
set_option linter.unusedSimpArgs false
theorem RowO.frame {wb : World} {ty : TypeId} {sz n : Nat} {R M : Own} {v : Value} {xs : List Value} (h : RowO wb ty sz R [] v n xs) : RowO wb ty sz (R ++ M) M v n xs := by
  obtain ⟨h0,⟨h1,h2,h3⟩ | ⟨b,cap,cs,h1,h2,h3⟩⟩ := h
  · exact ⟨h0,.inl ⟨h1,h2,by rw [h3]; rfl⟩⟩
  · exact ⟨h0,.inr ⟨b,cap,cs,h1,by rw [h2]; rfl,h3⟩⟩
theorem RowO.unframe {wb : World} {ty : TypeId} {sz n : Nat} {L M : Own} {v : Value} {xs : List Value} (h : RowO wb ty sz L M v n xs) : ∃ R,L = R ++ M ∧ RowO wb ty sz R [] v n xs := by
  obtain ⟨h0,⟨h1,h2,h3⟩ | ⟨b,cap,cs,h1,h2,h3⟩⟩ := h
  · exact ⟨[],by rw [h3]; rfl,h0,.inl ⟨h1,h2,rfl⟩⟩
  · exact ⟨[_],by rw [h2]; rfl,h0,.inr ⟨b,cap,cs,h1,rfl,h3⟩⟩
theorem storeX_weak {P : Program} {t : TypeId} {a v : Value} {wb : World} {L L' : Own} {K : Own → Prop} (hs : ∀ w,Sy wb L w → Sy wb L' w) (h : StoreX P t a v wb L' (tag K)) : StoreX P t a v wb L (tag K) := by
  obtain ⟨L2,h1,h2⟩ := h
  exact ⟨L2,fun w hw => h1 w (hs w hw),h2⟩
end Go.Proofs.YtdmdgkpjjpijdaaGreatDoor
namespace Go.Proofs.YtdmdgkpjjpijdaaGreatDoor
open Go Go.K
set_option maxRecDepth 100000
set_option linter.unusedVariables false
set_option linter.unusedSimpArgs false
set_option maxHeartbeats 1000000
theorem infoFldC : (Tryz.prog.info? 37).map (fun i => (i.zero,i.size,i.bytes)) = some (some (.agg #[str [],.bool false,i64 0,i64 0,i64 0,i64 0,.slice none 0 0]),7,80) := by kernel_rfl
def Held (w : World) (M : Own) : Prop := ∀ p ∈ M,w.heap[p.1]? = some p.2
theorem Held.of_sy {wb w : World} {L M : Own} (h : Sy wb L w) (hM : ∀ p ∈ M,p ∈ L) : Held w M := fun p hp => h.own p.1 p.2 (hM p hp)
inductive RdX (G : World → Prop) : Option Addr → List Fld → Prop where
  | nil (a : Option Addr) : RdX G a []
  | cons {b off : Nat} {a : Option Addr} {c : Nat} {f : Fld} {rest : List Fld} (hc : f.sub.length ≤ c) (hn : f.nm.length ≤ 9223372036854775807) (hl : c ≤ 9223372036854775807)
      (hat : ∀ w,G w → At w b off (f.cells a c)) (hs : RdX G a f.sub) (hr : RdX G (some ⟨b,off + 7,none⟩) rest) : RdX G (some ⟨b,off,none⟩) (f :: rest)
theorem RdX.toRd {G : World → Prop} {w : World} (hw : G w) {a : Option Addr} {l : List Fld} (h : RdX G a l) : Rd w w.heap.size a l := by
  induction h with
  | nil a => exact .nil a
  | cons hc hn hl hat hs hr ih1 ih2 => exact .cons (hat w hw).lt hc hn hl (hat w hw) ih1 ih2
end Go.Proofs.YtdmdgkpjjpijdaaGreatDoor
/- YtdmdgkpjjpijdaaGreatDoor: walks, part 110: fields of their own memory: each list in a block of its own. -/
namespace Go.Proofs.YtdmdgkpjjpijdaaGreatDoor
open Go Go.K
set_option maxRecDepth 100000
set_option linter.unusedVariables false
set_option linter.unusedSimpArgs false
set_option maxHeartbeats 1600000
mutual
def OwF : Fld → Own → Option Addr → Nat → Prop
  | .mk nm _ _ _ _ _ sub,K,a,c => nm.length ≤ 9223372036854775807 ∧ ((sub = [] ∧ a = none ∧ c = 0 ∧ K = []) ∨
      ∃ (b cap : Nat) (cs xs : List Value) (K' : Own),a = some ⟨b,0,none⟩ ∧ K = (b,Obj.cells cs.toArray 37 (0,0)) :: K' ∧ sub.length ≤ c ∧ c ≤ cap ∧ (c = cap ∨ c = sub.length) ∧ cap ≤ 9223372036854775807 ∧ cs.length = cap * 7 ∧ cs.take (sub.length * 7) = xs ∧ OwK sub K' xs)
def OwK : List Fld → Own → List Value → Prop
  | [],K,cs => K = [] ∧ cs = []
  | f :: l,K,cs => ∃ (K1 K2 : Own) (a : Option Addr) (c : Nat) (cs' : List Value),K = K1 ++ K2 ∧ cs = f.cells a c ++ cs' ∧ OwF f K1 a c ∧ OwK l K2 cs'
end
theorem OwF_iff (f : Fld) (K : Own) (a : Option Addr) (c : Nat) : OwF f K a c ↔ f.nm.length ≤ 9223372036854775807 ∧ ((f.sub = [] ∧ a = none ∧ c = 0 ∧ K = []) ∨
      ∃ (b cap : Nat) (cs xs : List Value) (K' : Own),a = some ⟨b,0,none⟩ ∧ K = (b,Obj.cells cs.toArray 37 (0,0)) :: K' ∧ f.sub.length ≤ c ∧ c ≤ cap ∧ (c = cap ∨ c = f.sub.length) ∧ cap ≤ 9223372036854775807 ∧ cs.length = cap * 7 ∧ cs.take (f.sub.length * 7) = xs ∧ OwK f.sub K' xs) := by
  cases f; rw [OwF]; rfl
abbrev OwS (l : List Fld) (K : Own) (a : Option Addr) (c : Nat) : Prop := OwF (.mk [] false 0 0 0 0 l) K a c
theorem OwS_iff (l : List Fld) (K : Own) (a : Option Addr) (c : Nat) : OwS l K a c ↔ ((l = [] ∧ a = none ∧ c = 0 ∧ K = []) ∨
      ∃ (b cap : Nat) (cs xs : List Value) (K' : Own),a = some ⟨b,0,none⟩ ∧ K = (b,Obj.cells cs.toArray 37 (0,0)) :: K' ∧ l.length ≤ c ∧ c ≤ cap ∧ (c = cap ∨ c = l.length) ∧ cap ≤ 9223372036854775807 ∧ cs.length = cap * 7 ∧ cs.take (l.length * 7) = xs ∧ OwK l K' xs) := by
  rw [OwS,OwF]; simp
theorem OwF.toS {f : Fld} {K : Own} {a : Option Addr} {c : Nat} (h : OwF f K a c) : OwS f.sub K a c := (OwS_iff _ _ _ _).2 ((OwF_iff _ _ _ _).1 h).2
theorem OwS.toF {f : Fld} {K : Own} {a : Option Addr} {c : Nat} (h : OwS f.sub K a c) (hn : f.nm.length ≤ 9223372036854775807) : OwF f K a c := (OwF_iff _ _ _ _).2 ⟨hn,(OwS_iff _ _ _ _).1 h⟩
theorem OwF.nm_le {f : Fld} {K : Own} {a : Option Addr} {c : Nat} (h : OwF f K a c) : f.nm.length ≤ 9223372036854775807 := ((OwF_iff _ _ _ _).1 h).1
theorem OwS.le {l : List Fld} {K : Own} {a : Option Addr} {c : Nat} (h : OwS l K a c) : l.length ≤ c ∧ c ≤ 9223372036854775807 := by
  rcases (OwS_iff _ _ _ _).1 h with ⟨rfl,_,rfl,_⟩ | ⟨b,cap,cs,xs,K',_,_,h1,h2,_,h3,_⟩
  · exact ⟨Nat.le_refl _,by omega⟩
  · exact ⟨h1,by omega⟩
theorem OwF.le {f : Fld} {K : Own} {a : Option Addr} {c : Nat} (h : OwF f K a c) : f.sub.length ≤ c ∧ c ≤ 9223372036854775807 := h.toS.le
theorem OwK.len : ∀ {l : List Fld} {K : Own} {cs : List Value},OwK l K cs → cs.length = l.length * 7
  | [],K,cs,h => by rw [OwK] at h; rw [h.2]; rfl
  | f :: l,K,cs,h => by
    rw [OwK] at h
    obtain ⟨K1,K2,a,c,cs',_,rfl,_,h2⟩ := h
    have := OwK.len h2
    simp only [Fld.cells,List.length_append,List.length_cons,List.length_nil,this]
    omega
theorem OwK.append {m : List Fld} {K2 : Own} {ds : List Value} (hd : OwK m K2 ds) : ∀ {l : List Fld} {K1 : Own} {cs : List Value},OwK l K1 cs → OwK (l ++ m) (K1 ++ K2) (cs ++ ds)
  | [],K1,cs,h => by rw [OwK] at h; obtain ⟨rfl,rfl⟩ := h; exact hd
  | f :: l,K1,cs,h => by
    rw [OwK] at h
    obtain ⟨A,B,a,c,cs',rfl,rfl,h1,h2⟩ := h
    rw [List.cons_append,OwK]
    exact ⟨A,B ++ K2,a,c,cs' ++ ds,by rw [List.append_assoc],by rw [List.append_assoc],h1,OwK.append hd h2⟩
theorem OwK.single {f : Fld} {K : Own} {a : Option Addr} {c : Nat} (h : OwF f K a c) : OwK [f] K (f.cells a c) := by
  rw [OwK]
  exact ⟨K,[],a,c,[],by simp,by simp,h,by rw [OwK]; exact ⟨rfl,rfl⟩⟩
theorem OwK.nil : OwK [] [] [] := by rw [OwK]; exact ⟨rfl,rfl⟩
theorem At.part {w : World} {b off : Nat} {x y : List Value} (h : At w b off (x ++ y)) : At w b off x ∧ At w b (off + x.length) y := by
  refine ⟨?_,h.sub x.length y (by simp)⟩
  have := h.sub 0 x (by simp)
  simpa using this
mutual
theorem OwF.rdx {G : World → Prop} : ∀ (f : Fld) {K : Own} {a : Option Addr} {c : Nat},OwF f K a c → (∀ w,G w → Held w K) → RdX G a f.sub
  | .mk nm nl k wd id ix sub,K,a,c,h,hG => by
    rw [OwF] at h
    obtain ⟨h1,⟨rfl,rfl,rfl,rfl⟩ | ⟨b,cap,cs,xs,K',rfl,rfl,h2,h3,h4,h5,h6,h7,h8⟩⟩ := h
    · exact .nil _
    · refine OwK.rdx sub h8 (fun w hw p hp => hG w hw p (.tail _ hp)) (fun w hw => ⟨_,_,_,hG w hw _ (.head _),?_⟩)
      have h9 := h8.len
      rw [List.drop_zero,h9]
      exact h7
theorem OwK.rdx {G : World → Prop} : ∀ (l : List Fld) {K : Own} {cs : List Value} {b off : Nat},OwK l K cs → (∀ w,G w → Held w K) → (∀ w,G w → At w b off cs) → RdX G (some ⟨b,off,none⟩) l
  | [],_,_,_,_,_,_,_ => .nil _
  | f :: l,K,cs,b,off,h,hG,hat => by
    rw [OwK] at h
    obtain ⟨K1,K2,a,c,cs',rfl,rfl,h1,h2⟩ := h
    have hl := OwF.le h1
    exact .cons hl.1 h1.nm_le hl.2 (fun w hw => (At.part (hat w hw)).1) (OwF.rdx f h1 (fun w hw p hp => hG w hw p (List.mem_append_left _ hp))) (OwK.rdx l h2 (fun w hw p hp => hG w hw p (List.mem_append_right _ hp)) (fun w hw => (At.part (hat w hw)).2))
end
theorem OwS.rdx {G : World → Prop} {l : List Fld} {K : Own} {a : Option Addr} {c : Nat} (h : OwS l K a c) (hG : ∀ w,G w → Held w K) : RdX G a l := OwF.rdx _ h hG
theorem OwS.rd {l : List Fld} {K L : Own} {a : Option Addr} {c : Nat} {wb w : World} (h : OwS l K a c) (hw : Sy wb L w) (hK : ∀ p ∈ K,p ∈ L) : Rd w w.heap.size a l :=
  (h.rdx (G := fun w => Held w K) fun _ h => h).toRd (Held.of_sy hw hK)
theorem OwF.rd {f : Fld} {K L : Own} {a : Option Addr} {c : Nat} {wb w : World} (h : OwF f K a c) (hw : Sy wb L w) (hK : ∀ p ∈ K,p ∈ L) : Rd w w.heap.size a f.sub := h.toS.rd hw hK
end Go.Proofs.YtdmdgkpjjpijdaaGreatDoor
/- YtdmdgkpjjpijdaaGreatDoor: walks, part 112: a field copied by the document's copy: each list in a block of its own. -/
namespace Go.Proofs.YtdmdgkpjjpijdaaGreatDoor
open Go Go.K
set_option maxRecDepth 100000
set_option linter.unusedVariables false
set_option linter.unusedSimpArgs false
set_option maxHeartbeats 1600000
end Go.Proofs.YtdmdgkpjjpijdaaGreatDoor
/- YtdmdgkpjjpijdaaGreatDoor: walks, part 113: fields that their owner writes over in place. -/
namespace Go.Proofs.YtdmdgkpjjpijdaaGreatDoor
open Go Go.K
set_option maxRecDepth 100000
set_option linter.unusedVariables false
set_option linter.unusedSimpArgs false
set_option maxHeartbeats 4000000
end Go.Proofs.YtdmdgkpjjpijdaaGreatDoor
/- YtdmdgkpjjpijdaaGreatDoor: walks, part 114: fields are put behind lists of one's own; the lists stay. -/
namespace Go.Proofs.YtdmdgkpjjpijdaaGreatDoor
open Go Go.K
set_option maxRecDepth 100000
set_option linter.unusedVariables false
set_option linter.unusedSimpArgs false
set_option maxHeartbeats 4000000
end Go.Proofs.YtdmdgkpjjpijdaaGreatDoor
/- YtdmdgkpjjpijdaaGreatDoor: walks, part 117: a loop over a function within a loop over a function. -/
namespace Go.Proofs.YtdmdgkpjjpijdaaGreatDoor
open Go Go.K
set_option maxRecDepth 100000
set_option linter.unusedVariables false
set_option linter.unusedSimpArgs false
end Go.Proofs.YtdmdgkpjjpijdaaGreatDoor
/- YtdmdgkpjjpijdaaGreatDoor: walks, part 116: Grow: fields are put behind lists of one's own, one after the other; the lists stay. -/
namespace Go.Proofs.YtdmdgkpjjpijdaaGreatDoor
open Go Go.K
set_option maxRecDepth 100000
set_option linter.unusedVariables false
set_option linter.unusedSimpArgs false
set_option maxHeartbeats 4000000
end Go.Proofs.YtdmdgkpjjpijdaaGreatDoor
