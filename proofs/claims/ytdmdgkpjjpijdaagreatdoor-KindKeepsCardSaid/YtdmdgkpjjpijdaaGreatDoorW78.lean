/- YtdmdgkpjjpijdaaGreatDoor: walks, part 78: Walk: all fields of a schema, those within too, each with its way; way and field are new memory. -/
import Derived.Test.YtdmdgkpjjpijdaaGreatDoorW61
namespace Go.Proofs.YtdmdgkpjjpijdaaGreatDoor
open Go Go.K
open Nat renaming reduceEqDiff → qE
open List renaming mem_cons → qM, mem_append_right → qR, length_cons → qN, length_append → qA, mem_nil_iff → qI
set_option maxRecDepth 100000
set_option linter.unusedVariables false
set_option linter.unusedSimpArgs false
set_option maxHeartbeats 4000000
theorem ldAt {P:Program} {wb:World} {L:Own} {t:TypeId} {b off n:Nat} {vs:List Value} {K:Value→Prop} (ht:shapeOf P t=some (true,n)) (ha:∀ w,Sy wb L w→At w b off vs) (hn:vs.length=n) (h:K (.agg vs.toArray)) :
 LoadX P t (.pointer (some ⟨b,off,none⟩)) wb L (tag K) :=
 ⟨_,fun w hw=>loadAt_agg (by rw[ht,hn]) (ha w hw),h⟩
structure YieldX (wb:World) (G:World→Prop) (M0:Own) (ns:List FNode) (I J:Nat→Own→Prop) (yv:Value):Prop where
 hen:∀ g first cap,yv=.func (.func g) first cap→entersB Tryz.prog g=true
 apart:∀ k C,I k C→∀ p∈C,wb.heap.size≤p.1
 call:∀ k n,ns[k]?=some n→∀ (C M:Own) (bw cap:Nat) (cs:List Value) (fa aa:Option Addr) (fc ac:Nat),I k C→wb.heap.size≤bw→n.path.length≤cap→cap≤maxLen→cs.length=cap→cs.take n.path.length=ints n.path →
  RdX G fa n.f.sub→n.f.sub.length≤fc→fc≤9223372036854775807→n.f.nm.length≤9223372036854775807→RdX G aa n.ah→n.ah.length≤ac→ac≤9223372036854775807→n.path.length≤65→(∀ p∈M,wb.heap.size≤p.1)→(∀ p∈M0,p∈M) →
  ∀ w,Sy wb (C++(bw,.cells cs.toArray 3 (0,0))::M) w→CallsV Tryz.prog yv #[placeV (some ⟨bw,0,none⟩) n.path.length cap aa n.ah.length ac n.f fa fc n.ind] w (fun e w' =>
   (e=.returned (.bool true)∧∃ L',(∃ C',I (k+1) C'∧L'=C'++(bw,.cells cs.toArray 3 (0,0))::M)∧Sy wb L' w')∨(e=.returned (.bool false)∧∃ L',(∃ C',J k C'∧L'=C'++M)∧Sy wb L' w'))
def AllX (wb:World) (G:World→Prop) (M0:Own) (ns:List FNode) (I J:Nat→Own→Prop) (yv:Value) (by_ bm bd most:Nat) (d:Nat):Prop:=∀ (w:World) (C M:Own) (k:Nat) (path:List Nat) (pv:Value) (l:List Fld) (a:Option Addr) (c:Nat) (ind:Bool),
 Sy wb (C++M) w→I k C→(∀ p∈M,wb.heap.size≤p.1)→(∀ p∈M0,p∈M)→(by_,.cells #[yv] 133 (0,0))∈M→(qb3 bm most)∈M →
 (bd,.cells #[.func (.func 84) #[] #[.pointer (some ⟨by_,0,none⟩),.pointer (some ⟨bm,0,none⟩),.pointer (some ⟨bd,0,none⟩)]] 134 (0,0))∈M →
 RowIn M 3 pv path.length (ints path)→path.length+d+1=most→RdX G a l→l.length≤c→c≤9223372036854775807→(∀ j x,(nd (d+1) path ind l)[j]?=some x→ns[k+j]?=some x) →
 Calls Tryz.prog 84 #[pv,.slice a l.length c,.bool ind,.pointer (some ⟨by_,0,none⟩),.pointer (some ⟨bm,0,none⟩),.pointer (some ⟨bd,0,none⟩)] w (fun e w' =>
  (e=.returned (.bool true)∧∃ L',(∃ C',I (k+(nd (d+1) path ind l).length) C'∧L'=C'++M)∧Sy wb L' w')∨(e=.returned (.bool false)∧∃ L',(∃ j C',J j C'∧L'=C'++M)∧Sy wb L' w'))
theorem allx_step (wb:World) (G:World→Prop) (M0:Own) (ns:List FNode) (I J:Nat→Own→Prop) (hG:∀ k C M w,I k C→(∀ p∈M,wb.heap.size≤p.1)→(∀ p∈M0,p∈M)→Sy wb (C++M) w→G w) (yv:Value) (hy:YieldX wb G M0 ns I J yv) (by_ bm bd most:Nat) (hmost:most≤65) (d:Nat)
 (ih:∀ d',d=d'+1→AllX wb G M0 ns I J yv by_ bm bd most d'):AllX wb G M0 ns I J yv by_ bm bd most d:=by
 intro w C M k path pv l a c ind hw hI hM hM0 hmy hmm hmd hpv hd hr hc hc2 hns
 refine enterB (args:=[pv,.slice a l.length c,.bool ind,.pointer (some ⟨by_,0,none⟩),.pointer (some ⟨bm,0,none⟩),.pointer (some ⟨bd,0,none⟩)]) Tryz.func84 rfl Tryz.ntmps84 (congrArg Array.toList Tryz.results84) (by kernel_rfl) (by simp) hw ?_
 refine sp ?_
 repeat' (first|((first|((first|refine gT rfl ?_ ?_|refine gF rfl ?_ ?_|refine cdD ?_ ?_)<;>intro h)|((first|refine gbT rfl ?_ ?_|refine gbF rfl ?_ ?_|refine cdB ?_ ?_)<;>intro h<;>(try subst h))|refine lOa Shp.eq rfl ?_|refine lAa Shp.eq rfl rfl ?_|refine newI (fun b hb hn=>?_)|refine sXb Siz.eq rfl rfl ?_)<;>simp (disch:=omega) only[push_cast,qE])|(first|rw[Vc]|rw[Vb])<;>(try simp (disch:=omega) only[push_cast,qE]))
 refine loopW (G:=Nat) (AllI wb M I k d path pv ind l a c (.pointer (some ⟨by_,0,none⟩)) (.pointer (some ⟨bm,0,none⟩)) (.pointer (some ⟨bd,0,none⟩))) (fun i=>l.length - i) 0 (C++M) (fun w hw=>hw) (by kernel_rfl) ⟨rfl,rfl,⟨C,rfl,by rw[ndAt_zero]; exact hI⟩,by omega,rfl,rfl,rfl,rfl,rfl,rfl,rfl,rfl,rfl⟩ ?_
 clear hI hw
 rintro i wb e ds L ⟨rfl,rfl,⟨C,rfl,hI⟩,hil,h0,h1,h2,h3,h4,h5,h13,h14,h15⟩
 have hC:=hy.apart _ _ hI
 simp (disch:=omega) only[push_cast,qE,h0,h1,h2,h3,h4,h5,h13,h14,h15]
 rw[Vc]
 simp (disch:=omega) only[push_cast,qE,h0,h1,h2,h3,h4,h5,h13,h14,h15]
 refine cdD (fun hlt=>?_) (fun hge=>?_)
 ·obtain ⟨f,hf⟩:∃ f,l[i]?=some f:=⟨_,List.getElem?_eq_getElem (by omega)⟩
  obtain ⟨f0,l0,rfl⟩:∃ f l',l=f::l':=List.exists_cons_of_ne_nil (by rintro rfl; simp at hf)
  obtain ⟨b,off,rfl⟩:=hr.some_of
  obtain ⟨fa,fc,x2,x3,x4,x5,x6⟩:=hr.get i hf
  simp (disch:=omega) only[push_cast,qE,h0,h1,h2,h3,h4,h5,h13,h14,h15]
  rw[Vb]
  simp (disch:=omega) only[push_cast,qE,h0,h1,h2,h3,h4,h5,h13,h14,h15]
  refine ldAt Shp.eq (fun w' hw'=>x2 w' (hG _ C M w' hI hM hM0 hw')) rfl ?_
  simp (disch:=omega) only[push_cast,qE,h0,h1,h2,h3,h4,h5,h13,h14,h15,Fld.cells]
  refine newI (fun bf hbf hnf=>?_)
  simp (disch:=omega) only[push_cast,qE,h0,h1,h2,h3,h4,h5,h13,h14,h15]
  repeat' (first|((first|((first|refine gT rfl ?_ ?_|refine gF rfl ?_ ?_|refine cdD ?_ ?_)<;>intro h)|((first|refine gbT rfl ?_ ?_|refine gbF rfl ?_ ?_|refine cdB ?_ ?_)<;>intro h<;>(try subst h))|refine lOa Shp.eq rfl ?_|refine lAa Shp.eq rfl rfl ?_|refine newI (fun b hb hn=>?_)|refine sXb Siz.eq rfl rfl ?_)<;>simp (disch:=omega) only[push_cast,qE,h0,h1,h2,h3,h4,h5,h13,h14,h15]))
  refine callV en_62 (callX_own (fun w' hw'=>clone_walk wb w' _ hw' pv path.length (ints path) (hpv.mono fun p hp=>.tail _ (qR _ hp)) (by omega) (ints_one path)) (fun v1 L1 hro=>?_))
  simp (disch:=omega) only[push_cast,qE,h0,h1,h2,h3,h4,h5,h13,h14,h15]
  refine bs_49_1 (newI fun b1 hb1 hn1=>?_)
  simp (disch:=omega) only[push_cast,qE,h0,h1,h2,h3,h4,h5,h13,h14,h15]
  obtain ⟨L2,hro2,hs2⟩:=hro.over (qb3 b1 i)
  refine valX_weak hs2 (appendI un_49 infoInt rfl hro2 (news:=[i64 i]) (m:=1) (by simp) (CanRead.of_own (n:=1) (hro2.mem (.head _)) rfl rfl) (by simp[Value.oneCell']) (by simp only[maxLen]; omega) (by omega) (fun v2 L3 hro3 _=>?_))
  obtain ⟨hxl,⟨_,h0',_⟩|⟨bw,cap,cs,rfl,rfl,hbw,hcap,hcm,hcl,hct⟩⟩:=hro3
  ·omega
  simp (disch:=omega) only[push_cast,qE,h0,h1,h2,h3,h4,h5,h13,h14,h15]
  refine drawTT 8 (by kernel_rfl) (by kernel_rfl) mixed (by kernel_rfl) rfl rfl ?_
  simp (disch:=omega) only[push_cast,qE,h0,h1,h2,h3,h4,h5,h13,h14,h15]
  refine lOn sh_133 (.tail _ (.tail _ (.tail _ (qR _ hmy)))) rfl ?_
  simp (disch:=omega) only[push_cast,qE,h0,h1,h2,h3,h4,h5,h13,h14,h15]
  refine lAg sh_37 (.tail _ (.tail _ (.head _))) rfl rfl ?_
  simp (disch:=omega) only[push_cast,qE,h0,h1,h2,h3,h4,h5,h13,h14,h15]
  have hlen:((f0::l0).take i).length=i:=by rw[List.length_take]; omega
  have hpl:(path++[i]).length=path.length+1:=by simp
  have hints:ints (path++[i])=ints path++[i64 i]:=by simp[ints]
  have hM1:∀ p∈((qb3 b1 i)::(qb0 bf f fa fc)::M),wb.heap.size≤p.1:=by
   intro p hp
   simp only[qM] at hp
   rcases hp with rfl|rfl|hp
   ·exact hb1
   ·exact hbf
   ·exact hM p hp
  have hnew:∀ p∈[(bw,Obj.cells cs.toArray 3 (0,0)),(qb3 b1 i),(qb0 bf f fa fc)],wb.heap.size≤p.1:=by
   intro p hp
   simp only[qM,qI,or_false] at hp
   rcases hp with rfl|rfl|rfl<;>assumption
  have hM2:∀ p∈((bw,Obj.cells cs.toArray 3 (0,0))::(qb3 b1 i)::(qb0 bf f fa fc)::M),wb.heap.size≤p.1:=by
   intro p hp
   rcases List.mem_cons.1 hp with rfl|hp
   ·exact hbw
   ·exact hM1 p hp
  refine callV_two (fun L'=>∃ C',I (k+(ndAt d path ind (f0::l0) i).length+1) C'∧L'=C'++(bw,.cells cs.toArray 3 (0,0))::(qb3 b1 i)::(qb0 bf f fa fc)::M)
   (fun L'=>∃ C',J (k+(ndAt d path ind (f0::l0) i).length) C'∧L'=C'++(qb3 b1 i)::(qb0 bf f fa fc)::M) rfl (by simp (disch:=omega) only[push_cast,qE]) hy.hen (fun w' hw'=>?_) ?_ ?_
  ·have hcall:=hy.call _ ⟨path++[i],(f0::l0).take i,f,ind⟩ (hns _ _ (nd_here d path ind _ i f hf)) C _ bw cap cs fa (some ⟨b,off,none⟩) fc c hI hbw (by rw[hpl]; exact hcap) hcm (by omega) (by rw[hpl,hints]; simpa using hct) x6 x3 x5 x4 (hr.take i) (by show ((f0::l0).take i).length≤c; omega) hc2 (by rw[hpl]; omega) hM1 (fun p hp=>.tail _ (.tail _ (hM0 p hp))) w' (hw'.perm (List.perm_append_comm_assoc [(bw,Obj.cells cs.toArray 3 (0,0)),(qb3 b1 i),(qb0 bf f fa fc)] C M))
   simp only[hpl,hlen] at hcall
   exact hcall
  ·rintro L' ⟨C1,hI1,rfl⟩
   simp (disch:=omega) only[push_cast,qE,h0,h1,h2,h3,h4,h5,h13,h14,h15]
   rw[Vc]
   simp (disch:=omega) only[push_cast,qE,h0,h1,h2,h3,h4,h5,h13,h14,h15]
   refine condX_f ?_
   simp (disch:=omega) only[push_cast,qE,h0,h1,h2,h3,h4,h5,h13,h14,h15]
   refine lOn sh_3 (qR _ (.tail _ (.tail _ (.tail _ hmm)))) rfl ?_
   simp (disch:=omega) only[push_cast,qE,h0,h1,h2,h3,h4,h5,h13,h14,h15]
   rcases d with _|d'
   ·refine gT rfl (fun h=>absurd h (by omega)) (fun _=>?_)
    simp (disch:=omega) only[push_cast,qE,h0,h1,h2,h3,h4,h5,h13,h14,h15]
    repeat' (first|((first|((first|refine gT rfl ?_ ?_|refine gF rfl ?_ ?_|refine cdD ?_ ?_)<;>intro h)|((first|refine gbT rfl ?_ ?_|refine gbF rfl ?_ ?_|refine cdB ?_ ?_)<;>intro h<;>(try subst h))|refine lOa Shp.eq rfl ?_|refine lAa Shp.eq rfl rfl ?_|refine newI (fun b hb hn=>?_)|refine sXb Siz.eq rfl rfl ?_)<;>simp (disch:=omega) only[push_cast,qE,h0,h1,h2,h3,h4,h5,h13,h14,h15]))
    rw[Vc]
    simp (disch:=omega) only[push_cast,qE,h0,h1,h2,h3,h4,h5,h13,h14,h15]
    have hI2:=hI1
    revert hI2
    generalize C1=C2
    intro hI2
    exact ⟨i+1,C2++M,fun w hw=>hw.mid C2 [(bw,Obj.cells cs.toArray 3 (0,0)),(qb3 b1 i),(qb0 bf f fa fc)] hnew,⟨rfl,rfl,⟨C2,rfl,by rw[ndAt_succ 0 path ind (f0::l0) i f hf,qA,qN,← Nat.add_assoc,← Nat.add_assoc,Nat.add_right_comm] ; exact hI2⟩,by omega,h0,h1,h2,h3,h4,h5,h13,h14,uu⟩,by
     show (f0::l0).length - (i+1) < (f0::l0).length - i
     omega⟩
   ·refine gT rfl (fun _=>?_) (fun h=>absurd (by omega) h)
    simp (disch:=omega) only[push_cast,qE,h0,h1,h2,h3,h4,h5,h13,h14,h15]
    refine lOn sh_134 (qR _ (.tail _ (.tail _ (.tail _ hmd)))) rfl ?_
    simp (disch:=omega) only[push_cast,qE,h0,h1,h2,h3,h4,h5,h13,h14,h15]
    refine lOn sh_24 (qR _ (.tail _ (.tail _ (.head _)))) rfl ?_
    simp (disch:=omega) only[push_cast,qE,h0,h1,h2,h3,h4,h5,h13,h14,h15]
    rcases ind with _|_
    ·simp (disch:=omega) only[push_cast,qE,h0,h1,h2,h3,h4,h5,h13,h14,h15]
     refine lOn sh_3 (qR _ (.tail _ (.tail _ (.head _)))) rfl ?_
     simp (disch:=omega) only[push_cast,qE,h0,h1,h2,h3,h4,h5,h13,h14,h15]
     refine callVc en_84 (callX_two (fun L'=>∃ C',I (k+(ndAt (d'+1) path false (f0::l0) i).length+1+(nd (d'+1) (path++[i]) (false || f.k == 19) f.sub).length) C'∧L'=C'++(bw,Obj.cells cs.toArray 3 (0,0))::(qb3 b1 i)::(qb0 bf f fa fc)::M) (fun L'=>∃ j C',J j C'∧L'=C'++(bw,Obj.cells cs.toArray 3 (0,0))::(qb3 b1 i)::(qb0 bf f fa fc)::M)
      (fun w' hw'=>ih d' rfl w' C1 ((bw,Obj.cells cs.toArray 3 (0,0))::(qb3 b1 i)::(qb0 bf f fa fc)::M) (k+(ndAt (d'+1) path false (f0::l0) i).length+1) (path++[i]) (.slice (some ⟨bw,0,none⟩) (path.length+1) cap) f.sub fa fc (false || f.k == 19) hw' hI1 hM2 (fun p hp=>.tail _ (.tail _ (.tail _ (hM0 p hp)))) (.tail _ (.tail _ (.tail _ hmy))) (.tail _ (.tail _ (.tail _ hmm))) (.tail _ (.tail _ (.tail _ hmd)))
       ⟨by simp[ints],.inr ⟨bw,cap,cs,by rw[hpl],.head _,by rw[hpl]; exact hcap,hcm,by omega,by rw[hpl,hints]; simpa using hct⟩⟩ (by rw[hpl]; omega) x6 x3 x5 (fun j x hx=>by
        have:=hns _ x (nd_within (d'+1) path false (f0::l0) i f hf j x hx)
        rw[← this]; congr 1; omega)) ?_ ?_)
     ·rintro L' ⟨C2,hI2,rfl⟩
      simp (disch:=omega) only[push_cast,qE,h0,h1,h2,h3,h4,h5,h13,h14,h15]
      rw[Vc]
      simp (disch:=omega) only[push_cast,qE,h0,h1,h2,h3,h4,h5,h13,h14,h15]
      refine condX_f ?_
      simp (disch:=omega) only[push_cast,qE,h0,h1,h2,h3,h4,h5,h13,h14,h15]
      exact ⟨i+1,C2++M,fun w hw=>hw.mid C2 [(bw,Obj.cells cs.toArray 3 (0,0)),(qb3 b1 i),(qb0 bf f fa fc)] hnew,⟨rfl,rfl,⟨C2,rfl,by rw[ndAt_succ (d'+1) path false (f0::l0) i f hf,qA,qN,← Nat.add_assoc,← Nat.add_assoc,Nat.add_right_comm] ; exact hI2⟩,by omega,h0,h1,h2,h3,h4,h5,h13,h14,uu⟩,by
     show (f0::l0).length - (i+1) < (f0::l0).length - i
     omega⟩
     ·rintro L' ⟨j,C2,hJ2,rfl⟩
      simp (disch:=omega) only[push_cast,qE,h0,h1,h2,h3,h4,h5,h13,h14,h15]
      rw[Vc]
      simp (disch:=omega) only[push_cast,qE,h0,h1,h2,h3,h4,h5,h13,h14,h15]
      refine condX_t ?_
      simp (disch:=omega) only[push_cast,qE,h0,h1,h2,h3,h4,h5,h13,h14,h15]
      exact fun w' hw'=>.inr ⟨_,⟨j,C2,hJ2,rfl⟩,hw'.mid C2 [(bw,Obj.cells cs.toArray 3 (0,0)),(qb3 b1 i),(qb0 bf f fa fc)] hnew⟩
    ·simp (disch:=omega) only[push_cast,qE,h0,h1,h2,h3,h4,h5,h13,h14,h15]
     refine callVc en_84 (callX_two (fun L'=>∃ C',I (k+(ndAt (d'+1) path true (f0::l0) i).length+1+(nd (d'+1) (path++[i]) (true || f.k == 19) f.sub).length) C'∧L'=C'++(bw,Obj.cells cs.toArray 3 (0,0))::(qb3 b1 i)::(qb0 bf f fa fc)::M) (fun L'=>∃ j C',J j C'∧L'=C'++(bw,Obj.cells cs.toArray 3 (0,0))::(qb3 b1 i)::(qb0 bf f fa fc)::M)
      (fun w' hw'=>ih d' rfl w' C1 ((bw,Obj.cells cs.toArray 3 (0,0))::(qb3 b1 i)::(qb0 bf f fa fc)::M) (k+(ndAt (d'+1) path true (f0::l0) i).length+1) (path++[i]) (.slice (some ⟨bw,0,none⟩) (path.length+1) cap) f.sub fa fc (true || f.k == 19) hw' hI1 hM2 (fun p hp=>.tail _ (.tail _ (.tail _ (hM0 p hp)))) (.tail _ (.tail _ (.tail _ hmy))) (.tail _ (.tail _ (.tail _ hmm))) (.tail _ (.tail _ (.tail _ hmd)))
       ⟨by simp[ints],.inr ⟨bw,cap,cs,by rw[hpl],.head _,by rw[hpl]; exact hcap,hcm,by omega,by rw[hpl,hints]; simpa using hct⟩⟩ (by rw[hpl]; omega) x6 x3 x5 (fun j x hx=>by
        have:=hns _ x (nd_within (d'+1) path true (f0::l0) i f hf j x hx)
        rw[← this]; congr 1; omega)) ?_ ?_)
     ·rintro L' ⟨C2,hI2,rfl⟩
      simp (disch:=omega) only[push_cast,qE,h0,h1,h2,h3,h4,h5,h13,h14,h15]
      rw[Vc]
      simp (disch:=omega) only[push_cast,qE,h0,h1,h2,h3,h4,h5,h13,h14,h15]
      refine condX_f ?_
      simp (disch:=omega) only[push_cast,qE,h0,h1,h2,h3,h4,h5,h13,h14,h15]
      exact ⟨i+1,C2++M,fun w hw=>hw.mid C2 [(bw,Obj.cells cs.toArray 3 (0,0)),(qb3 b1 i),(qb0 bf f fa fc)] hnew,⟨rfl,rfl,⟨C2,rfl,by rw[ndAt_succ (d'+1) path true (f0::l0) i f hf,qA,qN,← Nat.add_assoc,← Nat.add_assoc,Nat.add_right_comm] ; exact hI2⟩,by omega,h0,h1,h2,h3,h4,h5,h13,h14,uu⟩,by
     show (f0::l0).length - (i+1) < (f0::l0).length - i
     omega⟩
     ·rintro L' ⟨j,C2,hJ2,rfl⟩
      simp (disch:=omega) only[push_cast,qE,h0,h1,h2,h3,h4,h5,h13,h14,h15]
      rw[Vc]
      simp (disch:=omega) only[push_cast,qE,h0,h1,h2,h3,h4,h5,h13,h14,h15]
      refine condX_t ?_
      simp (disch:=omega) only[push_cast,qE,h0,h1,h2,h3,h4,h5,h13,h14,h15]
      exact fun w' hw'=>.inr ⟨_,⟨j,C2,hJ2,rfl⟩,hw'.mid C2 [(bw,Obj.cells cs.toArray 3 (0,0)),(qb3 b1 i),(qb0 bf f fa fc)] hnew⟩
  ·rintro L' ⟨C1,hJ1,rfl⟩
   simp (disch:=omega) only[push_cast,qE,h0,h1,h2,h3,h4,h5,h13,h14,h15]
   rw[Vc]
   simp (disch:=omega) only[push_cast,qE,h0,h1,h2,h3,h4,h5,h13,h14,h15]
   refine condX_t ?_
   simp (disch:=omega) only[push_cast,qE,h0,h1,h2,h3,h4,h5,h13,h14,h15]
   exact fun w' hw'=>.inr ⟨_,⟨_,C1,hJ1,rfl⟩,hw'.mid C1 [(qb3 b1 i),(qb0 bf f fa fc)] (fun p hp=>hnew p (.tail _ hp))⟩
 ·obtain rfl:i=l.length:=by omega
  simp (disch:=omega) only[push_cast,qE,h0,h1,h2,h3,h4,h5,h13,h14,h15]
  exact fun w' hw'=>.inl ⟨_,⟨C,by rw[← ndAt_all d path ind l l.length (Nat.le_refl _)]; exact hI,rfl⟩,hw'⟩
theorem allx_walk (wb:World) (G:World→Prop) (M0:Own) (ns:List FNode) (I J:Nat→Own→Prop) (hG:∀ k C M w,I k C→(∀ p∈M,wb.heap.size≤p.1)→(∀ p∈M0,p∈M)→Sy wb (C++M) w→G w) (yv:Value) (hy:YieldX wb G M0 ns I J yv) (by_ bm bd most:Nat) (hmost:most≤65):∀ d,AllX wb G M0 ns I J yv by_ bm bd most d
 | 0=>allx_step wb G M0 ns I J hG yv hy by_ bm bd most hmost 0 (fun d' h=>by cases h)
 | d+1=>allx_step wb G M0 ns I J hG yv hy by_ bm bd most hmost (d+1) (fun d' h=>by cases h; exact allx_walk wb G M0 ns I J hG yv hy by_ bm bd most hmost d)
theorem all1x_walk (wb:World) (G:World→Prop) (M0:Own) (ns:List FNode) (I J:Nat→Own→Prop) (hG:∀ k C M w,I k C→(∀ p∈M,wb.heap.size≤p.1)→(∀ p∈M0,p∈M)→Sy wb (C++M) w→G w) (yv:Value) (hyc:yv.cells=#[yv]) (hy1:yv.oneCell'=true) (hy:YieldX wb G M0 ns I J yv) (most:Nat) (hm0:0 < most) (hmost:most≤65) (w:World) (C M:Own) (bm bl:Nat) (l:List Fld) (a:Option Addr) (c:Nat)
 (hw:Sy wb (C++M) w) (hI:I 0 C) (hM:∀ p∈M,wb.heap.size≤p.1) (hM0:∀ p∈M0,p∈M) (hmm:(qb3 bm most)∈M) (hml:(qb11 bl a l.length c)∈M) (hr:RdX G a l) (hc:l.length≤c) (hc2:c≤9223372036854775807) (hns:ns=nd most [] false l) :
 Calls Tryz.prog 83 #[yv,.pointer (some ⟨bm,0,none⟩),.pointer (some ⟨bl,0,none⟩)] w (fun e w'=>e=.returned (.tuple #[])∧((∃ C',I ns.length C'∧Sy wb (C'++M) w')∨(∃ j C',J j C'∧Sy wb (C'++M) w'))):=by
 refine enterB (args:=[yv,.pointer (some ⟨bm,0,none⟩),.pointer (some ⟨bl,0,none⟩)]) Tryz.func83 rfl Tryz.ntmps83 (congrArg Array.toList Tryz.results83) (by kernel_rfl) (by simp) hw ?_
 refine sp ?_
 rw[hyc]
 refine newI (fun by_ hby hny=>?_)
 refine sp ?_
 refine newI (fun bd hbd hnd=>?_)
 refine sp ?_
 refine stX 0 rfl (by exact Siz.eq) rfl rfl (by simp[Value.oneCell']) (by simp) ?_
 refine sp ?_
 refine lOn (by exact Shp.eq) (.head _) rfl ?_
 refine sp ?_
 refine lOn sh_24 (.tail _ (.tail _ (qR _ hml))) rfl ?_
 refine sp ?_
 obtain ⟨m,rfl⟩:∃ m,most=m+1:=⟨most - 1,by omega⟩
 have hnew:∀ p∈[(bd,Obj.cells #[.func (.func 84) #[] #[.pointer (some ⟨by_,0,none⟩),.pointer (some ⟨bm,0,none⟩),.pointer (some ⟨bd,0,none⟩)]] 134 (0,0)),(by_,Obj.cells #[yv] 133 (0,0))],wb.heap.size≤p.1:=by
  intro p hp
  simp only[qM,qI,or_false] at hp
  rcases hp with rfl|rfl<;>assumption
 have hM2:∀ p∈((bd,Obj.cells #[.func (.func 84) #[] #[.pointer (some ⟨by_,0,none⟩),.pointer (some ⟨bm,0,none⟩),.pointer (some ⟨bd,0,none⟩)]] 134 (0,0))::(by_,Obj.cells #[yv] 133 (0,0))::M),wb.heap.size≤p.1:=by
  intro p hp
  simp only[qM] at hp
  rcases hp with rfl|rfl|hp
  ·exact hbd
  ·exact hby
  ·exact hM p hp
 refine callVc en_84 (callX_weak (L':=C++(bd,Obj.cells #[.func (.func 84) #[] #[.pointer (some ⟨by_,0,none⟩),.pointer (some ⟨bm,0,none⟩),.pointer (some ⟨bd,0,none⟩)]] 134 (0,0))::(by_,Obj.cells #[yv] 133 (0,0))::M) (fun w' hw'=>hw'.perm (List.perm_append_comm_assoc [(bd,Obj.cells #[.func (.func 84) #[] #[.pointer (some ⟨by_,0,none⟩),.pointer (some ⟨bm,0,none⟩),.pointer (some ⟨bd,0,none⟩)]] 134 (0,0)),(by_,Obj.cells #[yv] 133 (0,0))] C M)) (callX_two (fun L'=>∃ C',I (0+(nd (m+1) [] false l).length) C'∧L'=C'++(bd,Obj.cells #[.func (.func 84) #[] #[.pointer (some ⟨by_,0,none⟩),.pointer (some ⟨bm,0,none⟩),.pointer (some ⟨bd,0,none⟩)]] 134 (0,0))::(by_,Obj.cells #[yv] 133 (0,0))::M) (fun L'=>∃ j C',J j C'∧L'=C'++(bd,Obj.cells #[.func (.func 84) #[] #[.pointer (some ⟨by_,0,none⟩),.pointer (some ⟨bm,0,none⟩),.pointer (some ⟨bd,0,none⟩)]] 134 (0,0))::(by_,Obj.cells #[yv] 133 (0,0))::M)
  (fun w' hw'=>allx_walk wb G M0 ns I J hG yv hy by_ bm bd (m+1) hmost m w' C ((bd,Obj.cells #[.func (.func 84) #[] #[.pointer (some ⟨by_,0,none⟩),.pointer (some ⟨bm,0,none⟩),.pointer (some ⟨bd,0,none⟩)]] 134 (0,0))::(by_,Obj.cells #[yv] 133 (0,0))::M) 0 [] (.slice none 0 0) l a c false hw' hI hM2 (fun p hp=>.tail _ (.tail _ (hM0 p hp))) (.tail _ (.head _)) (.tail _ (.tail _ hmm)) (.head _) ⟨rfl,.inl ⟨rfl,rfl⟩⟩ (by simp) hr hc hc2 (fun j x hx=>by rw[hns,Nat.zero_add]; exact hx)) ?_ ?_))
 ·rintro L' ⟨C2,hI2,rfl⟩
  refine sp ?_
  exact fun w' hw'=>.inl ⟨C2,by rw[hns]; simpa using hI2,hw'.mid C2 [(bd,Obj.cells #[.func (.func 84) #[] #[.pointer (some ⟨by_,0,none⟩),.pointer (some ⟨bm,0,none⟩),.pointer (some ⟨bd,0,none⟩)]] 134 (0,0)),(by_,Obj.cells #[yv] 133 (0,0))] hnew⟩
 ·rintro L' ⟨j,C2,hJ2,rfl⟩
  refine sp ?_
  exact fun w' hw'=>.inr ⟨j,C2,hJ2,hw'.mid C2 [(bd,Obj.cells #[.func (.func 84) #[] #[.pointer (some ⟨by_,0,none⟩),.pointer (some ⟨bm,0,none⟩),.pointer (some ⟨bd,0,none⟩)]] 134 (0,0)),(by_,Obj.cells #[yv] 133 (0,0))] hnew⟩
set_option maxHeartbeats 1000000
theorem enterMB {P:Program} {f:FuncId} {fn:Func} {code:Code} {args:List Value} {w wb:World} {L:Own} {R:Ending→World→Prop} (hf:P.funcs[f]?=some fn) (hb:fn.body=some code) {rs:List ResultVar} {n:Nat} (hn:fn.ntmps=n) (hrs:fn.results.toList=rs) (hok:okCode n code=true) (hsz:args.length≤n)
 (hL:Sy wb L w) (h:VT ⟨P,n,none⟩ (tag code) (tag (retM P rs (tag R))) wb (env0 args) [] L):Calls P f args.toArray w R:=by
 subst hn
 refine calls_of_in (r:=none) (m:=0) (callsIn_of_wp_marks (F:={ Fence.wide with round:=none }) hf hb trivial (wpIn_mono (V_sound (c:=⟨P,fn.ntmps,none⟩) code _ wb _ [] L hok h { tmps:=args.toArray++Array.replicate (fn.ntmps - args.toArray.size) undef,defers:=[] } w (rep0 hsz) hL) ?_))
 rintro x a w' ⟨wb',e',ds',L',hr',hw',hq⟩
 cases x with
 | normal=>rw[← hr'.defers] at hq; exact leaveL_sound hrs ⟨hr'.size,hr'.get,rfl⟩ _ _ _ _ hw' hq
 | ret=>rw[← hr'.defers] at hq; exact leaveL_sound hrs ⟨hr'.size,hr'.get,rfl⟩ _ _ _ _ hw' hq
 | panic ch=>exact hq.elim
 | goto l=>exact hq.elim
 | exit id=>exact hq.elim
 | outgrown=>exact hq.elim
def WalkS (v:Value) (M:Own) (l:List Fld):Prop:=∃ b3 va vc,v=.func (.func 61) #[] #[.pointer (some ⟨b3,0,none⟩)]∧(qb11 b3 va l.length vc)∈M∧l.length≤vc∧vc≤9223372036854775807∧RdX (fun w=>Held w M) va l
def walkL (l:List Fld) (nt:List NoteT):List Fld:=if mayP l nt then l else []
theorem walk_walk (w:World) (hs:SaysAt w) (lo:Nat) (hlo:lo≤w.heap.size) (a:Option Addr) (l:List Fld) (c:Nat) (na:Option Addr) (nt:List NoteT) (nc:Nat) (hsc:SchAt w lo a l c na nt nc) :
 Calls Tryz.prog 21 #[schV a l c na nt nc] w (RetsN w (fun v M=>WalkS v M (walkL l nt))):=by
 refine enterB (args:=[schV a l c na nt nc]) Tryz.func21 rfl Tryz.ntmps21 (congrArg Array.toList Tryz.results21) (by kernel_rfl) (by simp) (Sy.refl w) ?_
 simp (disch:=omega) only[push_cast,qE,schV]
 refine newI (fun b1 hb1 hn1=>?_)
 refine sp ?_
 refine newI (fun b3 hb3 hn3=>?_)
 refine sp ?_
 have hL:∀ x y:Obj,∀ p∈[(b3,x),(b1,y)],w.heap.size≤p.1:=fun x y p hp=>by
  simp only[qM,qI,or_false] at hp
  rcases hp with rfl|rfl<;>assumption
 refine lAg Shp.eq mem1 rfl rfl ?_
 refine sp ?_
 refine callV en_56 (cIs (fun w' hw'=>may_walk w' (hs.mono hw' (hL _ _)) lo (Nat.le_trans hlo hw'.size) a l c na nt nc (hsc.sy hlo hw' (fun p hp=>Nat.le_trans hlo (hL _ _ p hp)))) ?_)
 refine sp ?_
 rcases hm:mayP l nt with _|_
 ·rw[Vc]
  refine sp ?_
  have hw0:walkL l nt=[]:=by unfold walkL; rw[hm]; rfl
  rw[hw0]
  exact fun w' hw'=>⟨_,[(b3,Obj.cells #[.slice none 0 0] 24 (0,0))],rfl,hw'.drop (.cons_cons _ (List.nil_sublist _)) (fun p hp=>.inr (hL _ _ p hp)),fun p hp=>by rw[List.mem_singleton.1 hp]; exact hb3,b3,none,0,rfl,.head _,by simp,by omega,.nil _⟩
 ·obtain ⟨sm1,sm2⟩:=small_may hm
  have hw0:walkL l nt=l:=by unfold walkL; rw[hm]; rfl
  rw[hw0]
  rw[Vc]
  refine sp ?_
  refine lOn Shp.eq mem1 rfl ?_
  refine sp ?_
  refine callV en_60 (cNw (fun w' hw'=>copied_walk w' lo l a c (Nat.le_trans hlo hw'.size) (hsc.hr.sy hlo hw' (fun p hp=>Nat.le_trans hlo (hL _ _ p hp))) hsc.hc hsc.hc2 sm2 sm1) (fun v M hM hMn hS=>?_))
  obtain ⟨a2,c2,xs2,rfl,z1,z2,z3,z4,z5⟩:=hS
  have zr:=copy_rdx z3 z4 z5
  refine sp ?_
  refine storeX_weak (L':=(b3,Obj.cells #[.slice none 0 0] 24 (0,0))::(M++[(qb4 b1 a l.length c na nt.length nc)])) (fun w hw=>hw.perm List.perm_middle) (sXa 0 rfl Siz.eq rfl rfl ?_)
  refine sp ?_
  exact fun w' hw'=>⟨_,(qb11 b3 a2 l.length c2)::M,rfl,hw'.drop (.cons_cons _ (List.sublist_append_left M _)) (fun p hp=>.inr (by
   rcases List.mem_cons.1 hp with rfl|hp
   ·exact hb3
   rcases List.mem_append.1 hp with hp|hp
   ·exact hM p hp
   ·rw[List.mem_singleton.1 hp]; exact hb1)),(nC hb3 hM),b3,a2,c2,rfl,.head _,z1,z2,zr.mono fun w hw p hp=>hw p (.tail _ hp)⟩
theorem Stab.of_mem {wb:World} {L Lq:Own} (hm:∀ p∈Lq,p∈L) (hnd:(Lq.map (·.1)).Nodup) (hL:∀ p∈L,wb.heap.size≤p.1):Stab wb L Lq:=fun w h =>
 ⟨h.os,h.tape,h.output,h.size,fun b o hp=>h.own b o (hm _ hp),hnd,fun k hk _=>h.rest k hk fun hx=>by
  obtain ⟨p,hp,rfl⟩:=List.mem_map.1 hx
  have:=hL p hp
  omega⟩
theorem forgetF {c:Cfg} {all:List Oper} {is:List Nat} {Lq:Own} {Q:Post} {wb:World} {e:Env} {ds:List Deferred} {L:Own} (F:Env→Prop) (hF:F e) (h:∀ e,F e→VFX c (tag all) is Lq (tag Q) wb e ds L):VFX c (tag all) is Lq (tag Q) wb e ds L:=h e hF
end Go.Proofs.YtdmdgkpjjpijdaaGreatDoor
