/- YtilejcofleeeiaaGreatDoor: walks, part 6: all fields of a tree in their order. -/
import Derived.Test.YtilejcofleeeiaaGreatDoorW5
import Derived.Test.YtilejcofleeeiaaGreatDoorKn
namespace Go.Proofs.YtilejcofleeeiaaGreatDoor
open Go Go.K
open Nat renaming reduceEqDiff → qE
open List renaming mem_cons → qM, mem_append_right → qR, length_cons → qN, length_append → qA, mem_nil_iff → qI
set_option maxRecDepth 100000
set_option linter.unusedVariables false
set_option linter.unusedSimpArgs false
set_option maxHeartbeats 4000000
theorem infoInt:(Tryz.prog.info? 3).map (fun i=>(i.zero,i.size,i.bytes))=some (some (.int .i64 0),1,8):=by kernel_rfl
theorem clone_walk (wb w:World) (L:Own) (hw:Sy wb L w) (v:Value) (n:Nat) (xs:List Value) (hv:RowIn L 3 v n xs) (hx:n≤1000) (h1:∀ u∈xs,u.oneCell'=true) :
 Calls Tryz.prog 137 #[v] w (fun e w'=>∃ v' L',e=.returned v'∧Sy wb L' w'∧RowO wb 3 1 L' L v' n xs):=by
 refine enterB (args:=[v]) Tryz.func137 rfl Tryz.ntmps137 (congrArg Array.toList Tryz.results137) (by kernel_rfl) (by simp) hw ?_
 rcases hv with ⟨hxn,⟨rfl,rfl⟩|⟨b,cap,cs,rfl,hm,hc1,hc2,hcl,hct⟩⟩
 ·refine sp ?_
  rw[bin_slice_nil none un_76]
  refine sp ?_
  rw[Vc]
  refine sp ?_
  refine condX_t ?_
  refine sp ?_
  exact fun w' hw'=>⟨_,L,rfl,hw',by omega,.inl ⟨rfl,rfl,rfl⟩⟩
 ·refine sp ?_
  rw[bin_slice_nil (some _) un_76]
  refine sp ?_
  rw[Vc]
  refine sp ?_
  refine condX_f ?_
  refine sp ?_
  refine makeEmpty un_76 sz_3 (newI fun b0 hb0 hn0=>?_)
  refine sp ?_
  refine appendI un_76 infoInt rfl (M:=L) (xs:=[]) (news:=xs) (n:=0) ⟨by simp,.inr ⟨b0,0,[],rfl,rfl,hb0,by omega,by simp[maxLen],by simp,by simp⟩⟩ (by omega) (CanRead.of_own (.tail _ hm) hxn hct) h1 (by simp only[maxLen]; omega) (by omega) (fun v' L' hr _=>?_)
  refine sp ?_
  rw[List.nil_append,Nat.zero_add] at hr
  exact fun w' hw'=>⟨_,L',rfl,hw',hr⟩
def ints (l:List Nat):List Value:=l.map fun (n:Nat)=>i64 n
structure YieldOK (wb:World) (lo:Nat) (ns:List FNode) (I J:Nat→Own→Prop) (yv:Value):Prop where
 hen:∀ g first cap,yv=.func (.func g) first cap→entersB Tryz.prog g=true
 apart:∀ k C,I k C→∀ p∈C,wb.heap.size≤p.1
 call:∀ k n,ns[k]?=some n→∀ (C M:Own) (bw cap:Nat) (cs:List Value) (fa aa:Option Addr) (fc ac:Nat),I k C→wb.heap.size≤bw→n.path.length≤cap→cap≤maxLen→cs.length=cap→cs.take n.path.length=ints n.path →
  Rd wb lo fa n.f.sub→n.f.sub.length≤fc→fc≤9223372036854775807→n.f.nm.length≤9223372036854775807→Rd wb lo aa n.ah→n.ah.length≤ac→ac≤9223372036854775807→n.path.length≤65→(∀ p∈M,wb.heap.size≤p.1) →
  ∀ w,Sy wb (C++(bw,.cells cs.toArray 3 (0,0))::M) w→CallsV Tryz.prog yv #[placeV (some ⟨bw,0,none⟩) n.path.length cap aa n.ah.length ac n.f fa fc n.ind] w (fun e w' =>
   (e=.returned (.bool true)∧∃ L',(∃ C',I (k+1) C'∧L'=C'++(bw,.cells cs.toArray 3 (0,0))::M)∧Sy wb L' w')∨(e=.returned (.bool false)∧∃ L',(∃ C',J k C'∧L'=C'++M)∧Sy wb L' w'))
structure AllI (w0:World) (M:Own) (I:Nat→Own→Prop) (k d:Nat) (path:List Nat) (pv:Value) (ind:Bool) (l:List Fld) (a:Option Addr) (c:Nat) (p3 p4 p5:Value) (i:Nat) (wb:World) (e:Env) (ds:List Deferred) (L:Own):Prop where
 hw:wb=w0
 hds:ds=[]
 o:∃ C,L=C++M∧I (k+(ndAt d path ind l i).length) C
 il:i≤l.length
 h0:e 0=pv
 h1:e 1=.slice a l.length c
 h2:e 2=.bool ind
 h3:e 3=p3
 h4:e 4=p4
 h5:e 5=p5
 h13:e 13=.slice a l.length c
 h14:e 14=i64 l.length
 h15:e 15=i64 i
def All11 (wb:World) (lo:Nat) (ns:List FNode) (I J:Nat→Own→Prop) (yv:Value) (by_ bm bd most:Nat) (d:Nat):Prop:=∀ (w:World) (C M:Own) (k:Nat) (path:List Nat) (pv:Value) (l:List Fld) (a:Option Addr) (c:Nat) (ind:Bool),
 Sy wb (C++M) w→I k C→(∀ p∈M,wb.heap.size≤p.1)→(by_,.cells #[yv] 173 (0,0))∈M→(qb4 bm most)∈M →
 (bd,.cells #[.func (.func 136) #[] #[.pointer (some ⟨by_,0,none⟩),.pointer (some ⟨bm,0,none⟩),.pointer (some ⟨bd,0,none⟩)]] 174 (0,0))∈M →
 RowIn M 3 pv path.length (ints path)→path.length+d+1=most→Rd wb lo a l→l.length≤c→c≤9223372036854775807→(∀ j x,(nd (d+1) path ind l)[j]?=some x→ns[k+j]?=some x) →
 Calls Tryz.prog 136 #[pv,.slice a l.length c,.bool ind,.pointer (some ⟨by_,0,none⟩),.pointer (some ⟨bm,0,none⟩),.pointer (some ⟨bd,0,none⟩)] w (fun e w' =>
  (e=.returned (.bool true)∧∃ L',(∃ C',I (k+(nd (d+1) path ind l).length) C'∧L'=C'++M)∧Sy wb L' w')∨(e=.returned (.bool false)∧∃ L',(∃ j C',J j C'∧L'=C'++M)∧Sy wb L' w'))
theorem ints_one (l:List Nat):∀ u∈ints l,u.oneCell'=true:=by
 intro u hu
 simp only[ints,List.mem_map] at hu
 obtain ⟨n,_,rfl⟩:=hu
 rfl
theorem all11_step (wb:World) (lo:Nat) (hlo:lo≤wb.heap.size) (ns:List FNode) (I J:Nat→Own→Prop) (yv:Value) (hy:YieldOK wb lo ns I J yv) (by_ bm bd most:Nat) (hmost:most≤65) (d:Nat)
 (ih:∀ d',d=d'+1→All11 wb lo ns I J yv by_ bm bd most d'):All11 wb lo ns I J yv by_ bm bd most d:=by
 intro w C M k path pv l a c ind hw hI hM hmy hmm hmd hpv hd hr hc hc2 hns
 refine enterB (args:=[pv,.slice a l.length c,.bool ind,.pointer (some ⟨by_,0,none⟩),.pointer (some ⟨bm,0,none⟩),.pointer (some ⟨bd,0,none⟩)]) Tryz.func136 rfl Tryz.ntmps136 (congrArg Array.toList Tryz.results136) (by kernel_rfl) (by simp) hw ?_
 refine sp ?_
 repeat' (first|((first|((first|refine gT rfl ?_ ?_|refine gF rfl ?_ ?_|refine cdD ?_ ?_)<;>intro h)|((first|refine gbT rfl ?_ ?_|refine gbF rfl ?_ ?_|refine cdB ?_ ?_)<;>intro h<;>(try subst h))|refine lOa Shp.eq rfl ?_|refine lAa Shp.eq rfl rfl ?_|refine newI (fun b hb hn=>?_)|refine sXb Siz.eq rfl rfl ?_)<;>simp (disch:=omega) only[push_cast,qE])|(first|rw[Vc]|rw[Vb])<;>(try simp (disch:=omega) only[push_cast,qE]))
 refine loopW (G:=Nat) (AllI wb M I k d path pv ind l a c (.pointer (some ⟨by_,0,none⟩)) (.pointer (some ⟨bm,0,none⟩)) (.pointer (some ⟨bd,0,none⟩))) (fun i=>l.length - i) 0 (C++M) (fun w hw=>hw) (by kernel_rfl) ⟨rfl,rfl,⟨C,rfl,by rw[ndAt_zero]; exact hI⟩,by omega,rfl,rfl,rfl,rfl,rfl,rfl,rfl,rfl,rfl⟩ ?_
 clear hI hw
 rintro i wb e ds L ⟨rfl,rfl,⟨C,rfl,hI⟩,hil,h0,h1,h2,h3,h4,h5,h13,h14,h15⟩
 have hC:=hy.apart _ _ hI
 have hout:∀ (b:Nat) (A:Own),b < lo→(∀ p∈A,wb.heap.size≤p.1)→b∉(A++(C++M)).map (·.1):=fun b A hb hA hm=>by
  obtain ⟨p,hp,e⟩:=List.mem_map.1 hm
  have:wb.heap.size≤p.1:=by
   rcases List.mem_append.1 hp with hp|hp
   ·exact hA p hp
   ·rcases List.mem_append.1 hp with hp|hp
    ·exact hC p hp
    ·exact hM p hp
  omega
 simp (disch:=omega) only[push_cast,qE,h0,h1,h2,h3,h4,h5,h13,h14,h15]
 rw[Vc]
 simp (disch:=omega) only[push_cast,qE,h0,h1,h2,h3,h4,h5,h13,h14,h15]
 refine cdD (fun hlt=>?_) (fun hge=>?_)
 ·obtain ⟨f,hf⟩:∃ f,l[i]?=some f:=⟨_,List.getElem?_eq_getElem (by omega)⟩
  obtain ⟨f0,l0,rfl⟩:∃ f l',l=f::l':=List.exists_cons_of_ne_nil (by rintro rfl; simp at hf)
  obtain ⟨b,off,rfl,hb⟩:=hr.some_of
  obtain ⟨fa,fc,x1,x2,x3,x4,x5,x6⟩:=hr.get i hf
  simp (disch:=omega) only[push_cast,qE,h0,h1,h2,h3,h4,h5,h13,h14,h15]
  rw[Vb]
  simp (disch:=omega) only[push_cast,qE,h0,h1,h2,h3,h4,h5,h13,h14,h15]
  refine ldAggF sh_26 x2 rfl (hout _ [] x1 (by simp)) ?_
  simp (disch:=omega) only[push_cast,qE,h0,h1,h2,h3,h4,h5,h13,h14,h15,Fld.cells]
  refine newI (fun bf hbf hnf=>?_)
  simp (disch:=omega) only[push_cast,qE,h0,h1,h2,h3,h4,h5,h13,h14,h15]
  repeat' (first|((first|((first|refine gT rfl ?_ ?_|refine gF rfl ?_ ?_|refine cdD ?_ ?_)<;>intro h)|((first|refine gbT rfl ?_ ?_|refine gbF rfl ?_ ?_|refine cdB ?_ ?_)<;>intro h<;>(try subst h))|refine lOa Shp.eq rfl ?_|refine lAa Shp.eq rfl rfl ?_|refine newI (fun b hb hn=>?_)|refine sXb Siz.eq rfl rfl ?_)<;>simp (disch:=omega) only[push_cast,qE,h0,h1,h2,h3,h4,h5,h13,h14,h15]))
  refine callV en_137 (callX_own (fun w' hw'=>clone_walk wb w' _ hw' pv path.length (ints path) (hpv.mono fun p hp=>.tail _ (qR _ hp)) (by omega) (ints_one path)) (fun v1 L1 hro=>?_))
  simp (disch:=omega) only[push_cast,qE,h0,h1,h2,h3,h4,h5,h13,h14,h15]
  refine bs_76_1 (newI fun b1 hb1 hn1=>?_)
  simp (disch:=omega) only[push_cast,qE,h0,h1,h2,h3,h4,h5,h13,h14,h15]
  obtain ⟨L2,hro2,hs2⟩:=hro.over (qb4 b1 i)
  refine valX_weak hs2 (appendI un_76 infoInt rfl hro2 (news:=[i64 i]) (m:=1) (by simp) (CanRead.of_own (n:=1) (hro2.mem (.head _)) rfl rfl) (by simp[Value.oneCell']) (by simp only[maxLen]; omega) (by omega) (fun v2 L3 hro3 _=>?_))
  obtain ⟨hxl,⟨_,h0',_⟩|⟨bw,cap,cs,rfl,rfl,hbw,hcap,hcm,hcl,hct⟩⟩:=hro3
  ·omega
  simp (disch:=omega) only[push_cast,qE,h0,h1,h2,h3,h4,h5,h13,h14,h15]
  refine drawTT 8 (by kernel_rfl) (by kernel_rfl) mixed (by kernel_rfl) rfl rfl ?_
  simp (disch:=omega) only[push_cast,qE,h0,h1,h2,h3,h4,h5,h13,h14,h15]
  refine lOn sh_173 (.tail _ (.tail _ (.tail _ (qR _ hmy)))) rfl ?_
  simp (disch:=omega) only[push_cast,qE,h0,h1,h2,h3,h4,h5,h13,h14,h15]
  refine lAg sh_26 (.tail _ (.tail _ (.head _))) rfl rfl ?_
  simp (disch:=omega) only[push_cast,qE,h0,h1,h2,h3,h4,h5,h13,h14,h15]
  have hlen:((f0::l0).take i).length=i:=by rw[List.length_take]; omega
  have hpl:(path++[i]).length=path.length+1:=by simp
  have hints:ints (path++[i])=ints path++[i64 i]:=by simp[ints]
  have hM1:∀ p∈((qb4 b1 i)::(qb0 bf f fa fc)::M),wb.heap.size≤p.1:=by
   intro p hp
   simp only[qM] at hp
   rcases hp with rfl|rfl|hp
   ·exact hb1
   ·exact hbf
   ·exact hM p hp
  have hnew:∀ p∈[(bw,Obj.cells cs.toArray 3 (0,0)),(qb4 b1 i),(qb0 bf f fa fc)],wb.heap.size≤p.1:=by
   intro p hp
   simp only[qM,qI,or_false] at hp
   rcases hp with rfl|rfl|rfl<;>assumption
  have hM2:∀ p∈((bw,Obj.cells cs.toArray 3 (0,0))::(qb4 b1 i)::(qb0 bf f fa fc)::M),wb.heap.size≤p.1:=by
   intro p hp
   rcases List.mem_cons.1 hp with rfl|hp
   ·exact hbw
   ·exact hM1 p hp
  refine callV_two (fun L'=>∃ C',I (k+(ndAt d path ind (f0::l0) i).length+1) C'∧L'=C'++(bw,.cells cs.toArray 3 (0,0))::(qb4 b1 i)::(qb0 bf f fa fc)::M)
   (fun L'=>∃ C',J (k+(ndAt d path ind (f0::l0) i).length) C'∧L'=C'++(qb4 b1 i)::(qb0 bf f fa fc)::M) rfl (by simp (disch:=omega) only[push_cast,qE]) hy.hen (fun w' hw'=>?_) ?_ ?_
  ·have hcall:=hy.call _ ⟨path++[i],(f0::l0).take i,f,ind⟩ (hns _ _ (nd_here d path ind _ i f hf)) C _ bw cap cs fa (some ⟨b,off,none⟩) fc c hI hbw (by rw[hpl]; exact hcap) hcm (by omega) (by rw[hpl,hints]; simpa using hct) x6 x3 x5 x4 (hr.take i) (by show ((f0::l0).take i).length≤c; omega) hc2 (by rw[hpl]; omega) hM1 w' (hw'.perm (List.perm_append_comm_assoc [(bw,Obj.cells cs.toArray 3 (0,0)),(qb4 b1 i),(qb0 bf f fa fc)] C M))
   simp only[hpl,hlen] at hcall
   exact hcall
  ·rintro L' ⟨C1,hI1,rfl⟩
   simp (disch:=omega) only[push_cast,qE,h0,h1,h2,h3,h4,h5,h13,h14,h15]
   rw[Vc]
   simp (disch:=omega) only[push_cast,qE,h0,h1,h2,h3,h4,h5,h13,h14,h15]
   refine condX_f ?_
   simp (disch:=omega) only[push_cast,qE,h0,h1,h2,h3,h4,h5,h13,h14,h15]
   refine lOn sh_3 (qR _ (.tail _ (.tail _ (.tail _ hmm)))) rfl ?_
   simp (disch:=omega) only[push_cast,qE,h0,h1,h2,h3,h4,h5,h13,h14,h15]
   rcases d with _|d'
   ·refine gT rfl (fun h=>absurd h (by omega)) (fun _=>?_)
    simp (disch:=omega) only[push_cast,qE,h0,h1,h2,h3,h4,h5,h13,h14,h15]
    repeat' (first|((first|((first|refine gT rfl ?_ ?_|refine gF rfl ?_ ?_|refine cdD ?_ ?_)<;>intro h)|((first|refine gbT rfl ?_ ?_|refine gbF rfl ?_ ?_|refine cdB ?_ ?_)<;>intro h<;>(try subst h))|refine lOa Shp.eq rfl ?_|refine lAa Shp.eq rfl rfl ?_|refine newI (fun b hb hn=>?_)|refine sXb Siz.eq rfl rfl ?_)<;>simp (disch:=omega) only[push_cast,qE,h0,h1,h2,h3,h4,h5,h13,h14,h15]))
    rw[Vc]
    simp (disch:=omega) only[push_cast,qE,h0,h1,h2,h3,h4,h5,h13,h14,h15]
    have hI2:=hI1
    revert hI2
    generalize C1=C2
    intro hI2
    exact ⟨i+1,C2++M,fun w hw=>hw.mid C2 [(bw,Obj.cells cs.toArray 3 (0,0)),(qb4 b1 i),(qb0 bf f fa fc)] hnew,⟨rfl,rfl,⟨C2,rfl,by rw[ndAt_succ 0 path ind (f0::l0) i f hf,qA,qN,← Nat.add_assoc,← Nat.add_assoc,Nat.add_right_comm] ; exact hI2⟩,by omega,h0,h1,h2,h3,h4,h5,h13,h14,uu⟩,by
     show (f0::l0).length - (i+1) < (f0::l0).length - i
     omega⟩
   ·refine gT rfl (fun _=>?_) (fun h=>absurd (by omega) h)
    simp (disch:=omega) only[push_cast,qE,h0,h1,h2,h3,h4,h5,h13,h14,h15]
    refine lOn sh_174 (qR _ (.tail _ (.tail _ (.tail _ hmd)))) rfl ?_
    simp (disch:=omega) only[push_cast,qE,h0,h1,h2,h3,h4,h5,h13,h14,h15]
    refine lOn sh_22 (qR _ (.tail _ (.tail _ (.head _)))) rfl ?_
    simp (disch:=omega) only[push_cast,qE,h0,h1,h2,h3,h4,h5,h13,h14,h15]
    rcases ind with _|_
    ·simp (disch:=omega) only[push_cast,qE,h0,h1,h2,h3,h4,h5,h13,h14,h15]
     refine lOn sh_3 (qR _ (.tail _ (.tail _ (.head _)))) rfl ?_
     simp (disch:=omega) only[push_cast,qE,h0,h1,h2,h3,h4,h5,h13,h14,h15]
     refine callVc en_136 (callX_two (fun L'=>∃ C',I (k+(ndAt (d'+1) path false (f0::l0) i).length+1+(nd (d'+1) (path++[i]) (false || f.k == 19) f.sub).length) C'∧L'=C'++(bw,Obj.cells cs.toArray 3 (0,0))::(qb4 b1 i)::(qb0 bf f fa fc)::M) (fun L'=>∃ j C',J j C'∧L'=C'++(bw,Obj.cells cs.toArray 3 (0,0))::(qb4 b1 i)::(qb0 bf f fa fc)::M)
      (fun w' hw'=>ih d' rfl w' C1 ((bw,Obj.cells cs.toArray 3 (0,0))::(qb4 b1 i)::(qb0 bf f fa fc)::M) (k+(ndAt (d'+1) path false (f0::l0) i).length+1) (path++[i]) (.slice (some ⟨bw,0,none⟩) (path.length+1) cap) f.sub fa fc (false || f.k == 19) hw' hI1 hM2 (.tail _ (.tail _ (.tail _ hmy))) (.tail _ (.tail _ (.tail _ hmm))) (.tail _ (.tail _ (.tail _ hmd)))
       ⟨by simp[ints],.inr ⟨bw,cap,cs,by rw[hpl],.head _,by rw[hpl]; exact hcap,hcm,by omega,by rw[hpl,hints]; simpa using hct⟩⟩ (by rw[hpl]; omega) x6 x3 x5 (fun j x hx=>by
        have:=hns _ x (nd_within (d'+1) path false (f0::l0) i f hf j x hx)
        rw[← this]; congr 1; omega)) ?_ ?_)
     ·rintro L' ⟨C2,hI2,rfl⟩
      simp (disch:=omega) only[push_cast,qE,h0,h1,h2,h3,h4,h5,h13,h14,h15]
      rw[Vc]
      simp (disch:=omega) only[push_cast,qE,h0,h1,h2,h3,h4,h5,h13,h14,h15]
      refine condX_f ?_
      simp (disch:=omega) only[push_cast,qE,h0,h1,h2,h3,h4,h5,h13,h14,h15]
      exact ⟨i+1,C2++M,fun w hw=>hw.mid C2 [(bw,Obj.cells cs.toArray 3 (0,0)),(qb4 b1 i),(qb0 bf f fa fc)] hnew,⟨rfl,rfl,⟨C2,rfl,by rw[ndAt_succ (d'+1) path false (f0::l0) i f hf,qA,qN,← Nat.add_assoc,← Nat.add_assoc,Nat.add_right_comm] ; exact hI2⟩,by omega,h0,h1,h2,h3,h4,h5,h13,h14,uu⟩,by
     show (f0::l0).length - (i+1) < (f0::l0).length - i
     omega⟩
     ·rintro L' ⟨j,C2,hJ2,rfl⟩
      simp (disch:=omega) only[push_cast,qE,h0,h1,h2,h3,h4,h5,h13,h14,h15]
      rw[Vc]
      simp (disch:=omega) only[push_cast,qE,h0,h1,h2,h3,h4,h5,h13,h14,h15]
      refine condX_t ?_
      simp (disch:=omega) only[push_cast,qE,h0,h1,h2,h3,h4,h5,h13,h14,h15]
      exact fun w' hw'=>.inr ⟨_,⟨j,C2,hJ2,rfl⟩,hw'.mid C2 [(bw,Obj.cells cs.toArray 3 (0,0)),(qb4 b1 i),(qb0 bf f fa fc)] hnew⟩
    ·simp (disch:=omega) only[push_cast,qE,h0,h1,h2,h3,h4,h5,h13,h14,h15]
     refine callVc en_136 (callX_two (fun L'=>∃ C',I (k+(ndAt (d'+1) path true (f0::l0) i).length+1+(nd (d'+1) (path++[i]) (true || f.k == 19) f.sub).length) C'∧L'=C'++(bw,Obj.cells cs.toArray 3 (0,0))::(qb4 b1 i)::(qb0 bf f fa fc)::M) (fun L'=>∃ j C',J j C'∧L'=C'++(bw,Obj.cells cs.toArray 3 (0,0))::(qb4 b1 i)::(qb0 bf f fa fc)::M)
      (fun w' hw'=>ih d' rfl w' C1 ((bw,Obj.cells cs.toArray 3 (0,0))::(qb4 b1 i)::(qb0 bf f fa fc)::M) (k+(ndAt (d'+1) path true (f0::l0) i).length+1) (path++[i]) (.slice (some ⟨bw,0,none⟩) (path.length+1) cap) f.sub fa fc (true || f.k == 19) hw' hI1 hM2 (.tail _ (.tail _ (.tail _ hmy))) (.tail _ (.tail _ (.tail _ hmm))) (.tail _ (.tail _ (.tail _ hmd)))
       ⟨by simp[ints],.inr ⟨bw,cap,cs,by rw[hpl],.head _,by rw[hpl]; exact hcap,hcm,by omega,by rw[hpl,hints]; simpa using hct⟩⟩ (by rw[hpl]; omega) x6 x3 x5 (fun j x hx=>by
        have:=hns _ x (nd_within (d'+1) path true (f0::l0) i f hf j x hx)
        rw[← this]; congr 1; omega)) ?_ ?_)
     ·rintro L' ⟨C2,hI2,rfl⟩
      simp (disch:=omega) only[push_cast,qE,h0,h1,h2,h3,h4,h5,h13,h14,h15]
      rw[Vc]
      simp (disch:=omega) only[push_cast,qE,h0,h1,h2,h3,h4,h5,h13,h14,h15]
      refine condX_f ?_
      simp (disch:=omega) only[push_cast,qE,h0,h1,h2,h3,h4,h5,h13,h14,h15]
      exact ⟨i+1,C2++M,fun w hw=>hw.mid C2 [(bw,Obj.cells cs.toArray 3 (0,0)),(qb4 b1 i),(qb0 bf f fa fc)] hnew,⟨rfl,rfl,⟨C2,rfl,by rw[ndAt_succ (d'+1) path true (f0::l0) i f hf,qA,qN,← Nat.add_assoc,← Nat.add_assoc,Nat.add_right_comm] ; exact hI2⟩,by omega,h0,h1,h2,h3,h4,h5,h13,h14,uu⟩,by
     show (f0::l0).length - (i+1) < (f0::l0).length - i
     omega⟩
     ·rintro L' ⟨j,C2,hJ2,rfl⟩
      simp (disch:=omega) only[push_cast,qE,h0,h1,h2,h3,h4,h5,h13,h14,h15]
      rw[Vc]
      simp (disch:=omega) only[push_cast,qE,h0,h1,h2,h3,h4,h5,h13,h14,h15]
      refine condX_t ?_
      simp (disch:=omega) only[push_cast,qE,h0,h1,h2,h3,h4,h5,h13,h14,h15]
      exact fun w' hw'=>.inr ⟨_,⟨j,C2,hJ2,rfl⟩,hw'.mid C2 [(bw,Obj.cells cs.toArray 3 (0,0)),(qb4 b1 i),(qb0 bf f fa fc)] hnew⟩
  ·rintro L' ⟨C1,hJ1,rfl⟩
   simp (disch:=omega) only[push_cast,qE,h0,h1,h2,h3,h4,h5,h13,h14,h15]
   rw[Vc]
   simp (disch:=omega) only[push_cast,qE,h0,h1,h2,h3,h4,h5,h13,h14,h15]
   refine condX_t ?_
   simp (disch:=omega) only[push_cast,qE,h0,h1,h2,h3,h4,h5,h13,h14,h15]
   exact fun w' hw'=>.inr ⟨_,⟨_,C1,hJ1,rfl⟩,hw'.mid C1 [(qb4 b1 i),(qb0 bf f fa fc)] (fun p hp=>hnew p (.tail _ hp))⟩
 ·obtain rfl:i=l.length:=by omega
  simp (disch:=omega) only[push_cast,qE,h0,h1,h2,h3,h4,h5,h13,h14,h15]
  exact fun w' hw'=>.inl ⟨_,⟨C,by rw[← ndAt_all d path ind l l.length (Nat.le_refl _)]; exact hI,rfl⟩,hw'⟩
theorem all11_walk (wb:World) (lo:Nat) (hlo:lo≤wb.heap.size) (ns:List FNode) (I J:Nat→Own→Prop) (yv:Value) (hy:YieldOK wb lo ns I J yv) (by_ bm bd most:Nat) (hmost:most≤65):∀ d,All11 wb lo ns I J yv by_ bm bd most d
 | 0=>all11_step wb lo hlo ns I J yv hy by_ bm bd most hmost 0 (fun d' h=>by cases h)
 | d+1=>all11_step wb lo hlo ns I J yv hy by_ bm bd most hmost (d+1) (fun d' h=>by cases h; exact all11_walk wb lo hlo ns I J yv hy by_ bm bd most hmost d)
theorem all1_walk (wb:World) (lo:Nat) (hlo:lo≤wb.heap.size) (ns:List FNode) (I J:Nat→Own→Prop) (yv:Value) (hyc:yv.cells=#[yv]) (hy1:yv.oneCell'=true) (hy:YieldOK wb lo ns I J yv) (most:Nat) (hm0:0 < most) (hmost:most≤65) (w:World) (C M:Own) (bm bl:Nat) (l:List Fld) (a:Option Addr) (c:Nat)
 (hw:Sy wb (C++M) w) (hI:I 0 C) (hM:∀ p∈M,wb.heap.size≤p.1) (hmm:(qb4 bm most)∈M) (hml:(bl,.cells #[.slice a l.length c] 22 (0,0))∈M) (hr:Rd wb lo a l) (hc:l.length≤c) (hc2:c≤9223372036854775807) (hns:ns=nd most [] false l) :
 Calls Tryz.prog 135 #[yv,.pointer (some ⟨bm,0,none⟩),.pointer (some ⟨bl,0,none⟩)] w (fun e w'=>e=.returned (.tuple #[])∧((∃ C',I ns.length C'∧Sy wb (C'++M) w')∨(∃ j C',J j C'∧Sy wb (C'++M) w'))):=by
 refine enterB (args:=[yv,.pointer (some ⟨bm,0,none⟩),.pointer (some ⟨bl,0,none⟩)]) Tryz.func135 rfl Tryz.ntmps135 (congrArg Array.toList Tryz.results135) (by kernel_rfl) (by simp) hw ?_
 refine sp ?_
 rw[hyc]
 refine newI (fun by_ hby hny=>?_)
 refine sp ?_
 refine newI (fun bd hbd hnd=>?_)
 refine sp ?_
 refine stX 0 rfl (by exact Siz.eq) rfl rfl (by simp[Value.oneCell']) (by simp) ?_
 refine sp ?_
 refine lOn (by exact Shp.eq) (.head _) rfl ?_
 refine sp ?_
 refine lOn sh_22 (.tail _ (.tail _ (qR _ hml))) rfl ?_
 refine sp ?_
 obtain ⟨m,rfl⟩:∃ m,most=m+1:=⟨most - 1,by omega⟩
 have hnew:∀ p∈[(bd,Obj.cells #[.func (.func 136) #[] #[.pointer (some ⟨by_,0,none⟩),.pointer (some ⟨bm,0,none⟩),.pointer (some ⟨bd,0,none⟩)]] 174 (0,0)),(by_,Obj.cells #[yv] 173 (0,0))],wb.heap.size≤p.1:=by
  intro p hp
  simp only[qM,qI,or_false] at hp
  rcases hp with rfl|rfl<;>assumption
 have hM2:∀ p∈((bd,Obj.cells #[.func (.func 136) #[] #[.pointer (some ⟨by_,0,none⟩),.pointer (some ⟨bm,0,none⟩),.pointer (some ⟨bd,0,none⟩)]] 174 (0,0))::(by_,Obj.cells #[yv] 173 (0,0))::M),wb.heap.size≤p.1:=by
  intro p hp
  simp only[qM] at hp
  rcases hp with rfl|rfl|hp
  ·exact hbd
  ·exact hby
  ·exact hM p hp
 refine callVc en_136 (callX_weak (L':=C++(bd,Obj.cells #[.func (.func 136) #[] #[.pointer (some ⟨by_,0,none⟩),.pointer (some ⟨bm,0,none⟩),.pointer (some ⟨bd,0,none⟩)]] 174 (0,0))::(by_,Obj.cells #[yv] 173 (0,0))::M) (fun w' hw'=>hw'.perm (List.perm_append_comm_assoc [(bd,Obj.cells #[.func (.func 136) #[] #[.pointer (some ⟨by_,0,none⟩),.pointer (some ⟨bm,0,none⟩),.pointer (some ⟨bd,0,none⟩)]] 174 (0,0)),(by_,Obj.cells #[yv] 173 (0,0))] C M)) (callX_two (fun L'=>∃ C',I (0+(nd (m+1) [] false l).length) C'∧L'=C'++(bd,Obj.cells #[.func (.func 136) #[] #[.pointer (some ⟨by_,0,none⟩),.pointer (some ⟨bm,0,none⟩),.pointer (some ⟨bd,0,none⟩)]] 174 (0,0))::(by_,Obj.cells #[yv] 173 (0,0))::M) (fun L'=>∃ j C',J j C'∧L'=C'++(bd,Obj.cells #[.func (.func 136) #[] #[.pointer (some ⟨by_,0,none⟩),.pointer (some ⟨bm,0,none⟩),.pointer (some ⟨bd,0,none⟩)]] 174 (0,0))::(by_,Obj.cells #[yv] 173 (0,0))::M)
  (fun w' hw'=>all11_walk wb lo hlo ns I J yv hy by_ bm bd (m+1) hmost m w' C ((bd,Obj.cells #[.func (.func 136) #[] #[.pointer (some ⟨by_,0,none⟩),.pointer (some ⟨bm,0,none⟩),.pointer (some ⟨bd,0,none⟩)]] 174 (0,0))::(by_,Obj.cells #[yv] 173 (0,0))::M) 0 [] (.slice none 0 0) l a c false hw' hI hM2 (.tail _ (.head _)) (.tail _ (.tail _ hmm)) (.head _) ⟨rfl,.inl ⟨rfl,rfl⟩⟩ (by simp) hr hc hc2 (fun j x hx=>by rw[hns,Nat.zero_add]; exact hx)) ?_ ?_))
 ·rintro L' ⟨C2,hI2,rfl⟩
  refine sp ?_
  exact fun w' hw'=>.inl ⟨C2,by rw[hns]; simpa using hI2,hw'.mid C2 [(bd,Obj.cells #[.func (.func 136) #[] #[.pointer (some ⟨by_,0,none⟩),.pointer (some ⟨bm,0,none⟩),.pointer (some ⟨bd,0,none⟩)]] 174 (0,0)),(by_,Obj.cells #[yv] 173 (0,0))] hnew⟩
 ·rintro L' ⟨j,C2,hJ2,rfl⟩
  refine sp ?_
  exact fun w' hw'=>.inr ⟨j,C2,hJ2,hw'.mid C2 [(bd,Obj.cells #[.func (.func 136) #[] #[.pointer (some ⟨by_,0,none⟩),.pointer (some ⟨bm,0,none⟩),.pointer (some ⟨bd,0,none⟩)]] 174 (0,0)),(by_,Obj.cells #[yv] 173 (0,0))] hnew⟩
theorem all_walk (w:World) (a:Option Addr) (n c:Nat) (most:Int) :
 Calls Tryz.prog 112 #[.slice a n c,i64 most] w (RetsN w (fun v M=>∃ bl bm,bl≠bm∧v=.func (.func 135) #[] #[.pointer (some ⟨bm,0,none⟩),.pointer (some ⟨bl,0,none⟩)]∧M=[(qb4 bm most),(bl,.cells #[.slice a n c] 22 (0,0))])):=by
 refine enterT (args:=[.slice a n c,i64 most]) Tryz.func112 rfl Tryz.ntmps112 (congrArg Array.toList Tryz.results112) (by kernel_rfl) (by simp) (Sy.refl w) ?_
 refine sp ?_
 refine newI (fun bl hbl hnl=>?_)
 refine sp ?_
 refine newI (fun bm hbm hnm=>?_)
 refine sp ?_
 refine fun w' hw'=>⟨_,_,rfl,hw',?_,bl,bm,?_,rfl,rfl⟩
 ·intro p hp
  simp only[qM,qI,or_false] at hp
  rcases hp with rfl|rfl<;>assumption
 ·rintro rfl; simp at hnm
end Go.Proofs.YtilejcofleeeiaaGreatDoor
