/- YtdmdgkpjjpijdaaGreatDoor: fields as cells: what is copied from list to list. -/
import Derived.Test.YtdmdgkpjjpijdaaGreatDoorKs
import Derived.Defers
import Derived.Recover
namespace Go.K
open Go
variable {P:Program} {wb:World} {L:Own} {Kp:KP}
theorem callX_pan {f:FuncId} {args:Array Value} {S:Value→Own→Prop} {SP:List PanicEntry→Own→Prop} {K:Value→World→Own→Prop} (h:∀ w,Sy wb L w→Calls P f args w (fun e w'=>(∃ v L',e=.returned v∧Sy wb L' w'∧S v L')∨(∃ ch L',e=.panicked ch∧Sy wb L' w'∧SP ch L')))
 (hk:∀ v L',S v L'→K v wb L') (hp:∀ ch L',SP ch L'→Kp ch wb L'):CallX P f args wb L (tag K) (tag Kp):=fun w hw =>
 (h w hw).mono fun e w' hx=>by
  rcases hx with ⟨v,L',rfl,hs,hv⟩|⟨ch,L',rfl,hs,hv⟩
  ·exact ⟨wb,L',hs,hk v L' hv⟩
  ·exact ⟨wb,L',hs,hp ch L' hv⟩
def retD (P:Program) (rs:List ResultVar) {R:Ending→World→Prop} (_:Tag R):Post
 | .ret,wb,e,ds,L | .normal,wb,e,ds,L =>
  (ds=[]∧ResL P wb L e rs fun vs=>∀ w,Sy wb L w→R (.returned (tup vs)) w) ∨
  (∃ (g:FuncId) (cap:Array Value),ds=[{ target:=.fn (.func g) cap,args:=#[] }]∧entersB P g=true ∧
   ∀ w,Sy wb L w→CallsD P g cap .returning w fun e' u' w'=>e'=.returned (.tuple #[])∧u'=.returning∧∃ L',Sy wb L' w'∧ResL P wb L' e rs fun vs=>∀ w,Sy wb L' w→R (.returned (tup vs)) w)
 | .panic ch,wb,e,ds,L =>
  (ds=[]∧∀ w,Sy wb L w→R (.panicked ch) w) ∨
  (∃ (g:FuncId) (cap:Array Value),ds=[{ target:=.fn (.func g) cap,args:=#[] }]∧entersB P g=true ∧
   ∀ w,Sy wb L w→CallsD P g cap (.panicking ch) w fun e' u' w'=>e'=.returned (.tuple #[])∧settle u'=.returning∧∃ L',Sy wb L' w'∧ResL P wb L' e rs fun vs=>∀ w,Sy wb L' w→R (.returned (tup vs)) w)
 | _,_,_,_,_=>False
@[push_cast] theorem retD_ret {rs:List ResultVar} {R:Ending→World→Prop} {e:Env} {ds:List Deferred}:retD P rs (tag R) .ret wb e ds L=((ds=[]∧ResL P wb L e rs fun vs=>∀ w,Sy wb L w→R (.returned (tup vs)) w) ∨
 (∃ (g:FuncId) (cap:Array Value),ds=[{ target:=.fn (.func g) cap,args:=#[] }]∧entersB P g=true ∧
  ∀ w,Sy wb L w→CallsD P g cap .returning w fun e' u' w'=>e'=.returned (.tuple #[])∧u'=.returning∧∃ L',Sy wb L' w'∧ResL P wb L' e rs fun vs=>∀ w,Sy wb L' w→R (.returned (tup vs)) w)):=(rfl)
@[push_cast] theorem retD_normal {rs:List ResultVar} {R:Ending→World→Prop} {e:Env} {ds:List Deferred}:retD P rs (tag R) .normal wb e ds L=((ds=[]∧ResL P wb L e rs fun vs=>∀ w,Sy wb L w→R (.returned (tup vs)) w) ∨
 (∃ (g:FuncId) (cap:Array Value),ds=[{ target:=.fn (.func g) cap,args:=#[] }]∧entersB P g=true ∧
  ∀ w,Sy wb L w→CallsD P g cap .returning w fun e' u' w'=>e'=.returned (.tuple #[])∧u'=.returning∧∃ L',Sy wb L' w'∧ResL P wb L' e rs fun vs=>∀ w,Sy wb L' w→R (.returned (tup vs)) w)):=(rfl)
@[push_cast] theorem retD_panic {rs:List ResultVar} {R:Ending→World→Prop} {e:Env} {ds:List Deferred} (ch:List PanicEntry):retD P rs (tag R) (.panic ch) wb e ds L=((ds=[]∧∀ w,Sy wb L w→R (.panicked ch) w) ∨
 (∃ (g:FuncId) (cap:Array Value),ds=[{ target:=.fn (.func g) cap,args:=#[] }]∧entersB P g=true ∧
  ∀ w,Sy wb L w→CallsD P g cap (.panicking ch) w fun e' u' w'=>e'=.returned (.tuple #[])∧settle u'=.returning∧∃ L',Sy wb L' w'∧ResL P wb L' e rs fun vs=>∀ w,Sy wb L' w→R (.returned (tup vs)) w)):=(rfl)
theorem enterD {f:FuncId} {fn:Func} {code:Code} {args:List Value} {w:World} {R:Ending→World→Prop} (hf:P.funcs[f]?=some fn) (hb:fn.body=some code) {rs:List ResultVar} {n:Nat} (hn:fn.ntmps=n) (hrs:fn.results.toList=rs) (hok:okCode n code=true) (hsz:args.length≤n)
 (hL:Sy wb L w) (h:VT ⟨P,n,none⟩ (tag code) (tag (retD P rs (tag R))) wb (env0 args) [] L):Calls P f args.toArray w R:=by
 subst hn
 refine calls_of_wp_defers hf hb ((wpIn_wide (n:=0)).1 (wpIn_mono (V_sound (c:=⟨P,fn.ntmps,none⟩) code _ wb _ [] L hok h { tmps:=args.toArray++Array.replicate (fn.ntmps - args.toArray.size) undef,defers:=[] } w (rep0 hsz) hL) ?_))
 have hret:∀ (a:Act) (w':World) (wb':World) (e':Env) (ds':List Deferred) (L':Own),Rep fn.ntmps a e' ds'→Sy wb' L' w'→retD P rs (tag R) .ret wb' e' ds' L'→Leaves P fn a.tmps R a.defers .returning w':=by
  intro a w' wb' e' ds' L' hr' hw' hq
  have hr0:Rep fn.ntmps { tmps:=a.tmps,defers:=[] } e' []:=⟨hr'.size,hr'.get,rfl⟩
  rcases hq with ⟨hd,hq⟩|⟨g,cap,hd,hg,hq⟩
  ·rw[hr'.defers,hd]
   obtain ⟨vs,hk,hrun⟩:=results_run (fn:=fn) hr0 hw' (by rw[hrs]; exact hq)
   exact ⟨_,hrun,hk w' hw'⟩
  ·rw[hr'.defers,hd]
   refine leaves_cons (f:=g) (args:=cap) (by simp) (by simpa [invoke] using enters_run hg cap w') ((hq w' hw').mono ?_)
   rintro e'' u' w'' ⟨rfl,rfl,L'',hs,hq2⟩
   obtain ⟨vs,hk,hrun⟩:=results_run (fn:=fn) hr0 hs (by rw[hrs]; exact hq2)
   exact ⟨_,hrun,hk w'' hs⟩
 rintro x a w' ⟨wb',e',ds',L',hr',hw',hq⟩
 cases x with
 | normal=>exact hret a w' wb' e' ds' L' hr' hw' hq
 | ret=>exact hret a w' wb' e' ds' L' hr' hw' hq
 | panic ch =>
  have hr0:Rep fn.ntmps { tmps:=a.tmps,defers:=[] } e' []:=⟨hr'.size,hr'.get,rfl⟩
  show Leaves P fn a.tmps R a.defers (.panicking ch) w'
  rcases hq with ⟨hd,hq⟩|⟨g,cap,hd,hg,hq⟩
  ·rw[hr'.defers,hd]
   exact hq w' hw'
  ·rw[hr'.defers,hd]
   refine leaves_cons (f:=g) (args:=cap) (by simp) (by simpa [invoke] using enters_run hg cap w') ((hq w' hw').mono ?_)
   rintro e'' u' w'' ⟨rfl,hu,L'',hs,hq2⟩
   show Leaves P fn a.tmps R [] (settle u') w''
   rw[hu]
   obtain ⟨vs,hk,hrun⟩:=results_run (fn:=fn) hr0 hs (by rw[hrs]; exact hq2)
   exact ⟨_,hrun,hk w'' hs⟩
 | exit id=>exact hq.elim
 | goto l=>exact hq.elim
 | outgrown=>exact hq.elim
end Go.K
namespace Go.Proofs.YtdmdgkpjjpijdaaGreatDoor
open Go Go.K
set_option linter.unusedVariables false
set_option linter.unusedSimpArgs false
def FldsC (w:World) (lo:Nat):List Fld→List Value→Prop
 | [],cs=>cs=[]
 | f::l,cs=>∃ a c r,cs=f.cells a c++r∧f.sub.length≤c∧f.nm.length≤9223372036854775807∧c≤9223372036854775807∧Rd w lo a f.sub∧FldsC w lo l r
theorem At.app {w:World} {b off:Nat} {x y:List Value} (h1:At w b off x) (h2:At w b (off+x.length) y):At w b off (x++y):=by
 obtain ⟨cs,ty,fr,h3,h4⟩:=h1
 obtain ⟨cs',ty',fr',h5,h6⟩:=h2
 rw[h3] at h5
 cases h5
 refine ⟨cs,ty,fr,h3,?_⟩
 rw[List.length_append,List.take_add,h4,List.drop_drop,h6]
theorem RowO.frame {wb:World} {ty:TypeId} {sz n:Nat} {R M:Own} {v:Value} {xs:List Value} (h:RowO wb ty sz R [] v n xs):RowO wb ty sz (R++M) M v n xs:=by
 obtain ⟨h0,⟨h1,h2,h3⟩|⟨b,cap,cs,h1,h2,h3⟩⟩:=h
 ·exact ⟨h0,.inl ⟨h1,h2,by rw[h3]; rfl⟩⟩
 ·exact ⟨h0,.inr ⟨b,cap,cs,h1,by rw[h2]; rfl,h3⟩⟩
theorem RowO.unframe {wb:World} {ty:TypeId} {sz n:Nat} {L M:Own} {v:Value} {xs:List Value} (h:RowO wb ty sz L M v n xs):∃ R,L=R++M∧RowO wb ty sz R [] v n xs:=by
 obtain ⟨h0,⟨h1,h2,h3⟩|⟨b,cap,cs,h1,h2,h3⟩⟩:=h
 ·exact ⟨[],by rw[h3]; rfl,h0,.inl ⟨h1,h2,rfl⟩⟩
 ·exact ⟨[_],by rw[h2]; rfl,h0,.inr ⟨b,cap,cs,h1,rfl,h3⟩⟩
theorem RowO.le {wb:World} {ty:TypeId} {sz n:Nat} {L M:Own} {a:Option Addr} {n' c:Nat} {xs:List Value} (h:RowO wb ty sz L M (.slice a n' c) n xs):n'=n∧n≤c∧c≤9223372036854775807:=by
 obtain ⟨h0,⟨h1,h2,h3⟩|⟨b,cap,cs,h1,h2,h3,h4,h5,h6,h7⟩⟩:=h
 ·cases h1; omega
 ·cases h1; simp only[maxLen] at h5; omega
theorem storeX_weak {P:Program} {t:TypeId} {a v:Value} {wb:World} {L L':Own} {K:Own→Prop} (hs:∀ w,Sy wb L w→Sy wb L' w) (h:StoreX P t a v wb L' (tag K)):StoreX P t a v wb L (tag K):=by
 obtain ⟨L2,h1,h2⟩:=h
 exact ⟨L2,fun w hw=>h1 w (hs w hw),h2⟩
end Go.Proofs.YtdmdgkpjjpijdaaGreatDoor
