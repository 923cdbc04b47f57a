/- YtilejcofleeeiaaGreatDoor: walks, part 21: the reference's shape of a type. -/
import Derived.Test.YtilejcofleeeiaaGreatDoorW84
namespace Go.Proofs.YtilejcofleeeiaaGreatDoor
open Go Go.K
open Nat renaming reduceEqDiff → qE
open Go.Value renaming oneCell' → qC
open List renaming mem_append_right → qR, mem_append_left → qL, length_cons → qN, length_append → qA, length_nil → qO
set_option maxRecDepth 100000
set_option linter.unusedVariables false
set_option linter.unusedSimpArgs false
set_option maxHeartbeats 4000000
def NodeC (wb:World) (lo:Nat) (W:Own) (x:FNode) (cs:List Value):Prop:=∃ (pb:Nat) (fa aa:Option Addr) (fc ac:Nat),
 cs=[.slice (some ⟨pb,0,none⟩) x.path.length x.path.length,str x.f.nm,.bool x.f.nl,i64 x.f.k,i64 x.f.wd,i64 x.f.id,i64 x.f.ix,.slice fa x.f.sub.length fc,.slice aa x.ah.length ac,.bool x.ind] ∧
 (pb,.cells (ints x.path).toArray 3 (0,0))∈W∧wb.heap.size≤pb∧x.path.length≤65∧Rd wb lo fa x.f.sub∧x.f.sub.length≤fc∧fc≤9223372036854775807∧x.f.nm.length≤9223372036854775807∧Rd wb lo aa x.ah∧x.ah.length≤ac∧ac≤9223372036854775807
def NodesC (wb:World) (lo:Nat) (W:Own):List FNode→List Value→Prop
 | [],xs=>xs=[]
 | x::os,xs=>∃ c r,xs=c++r∧NodeC wb lo W x c∧NodesC wb lo W os r
theorem NodeC.len {wb:World} {lo:Nat} {W:Own} {x:FNode} {cs:List Value} (h:NodeC wb lo W x cs):cs.length=10:=by
 obtain ⟨pb,fa,aa,fc,ac,rfl,_⟩:=h; rfl
theorem NodeC.one {wb:World} {lo:Nat} {W:Own} {x:FNode} {cs:List Value} (h:NodeC wb lo W x cs):∀ u∈cs,u.oneCell'=true:=by
 obtain ⟨pb,fa,aa,fc,ac,rfl,_⟩:=h
 simp[qC]
theorem NodeC.mono {wb:World} {lo:Nat} {W W':Own} {x:FNode} {cs:List Value} (h:NodeC wb lo W x cs) (hs:∀ p,p∈W→p∈W'):NodeC wb lo W' x cs:=by
 obtain ⟨pb,fa,aa,fc,ac,h1,h2,h3⟩:=h
 exact ⟨pb,fa,aa,fc,ac,h1,hs _ h2,h3⟩
theorem NodesC.mono {wb:World} {lo:Nat} {W W':Own} (hs:∀ p,p∈W→p∈W'):∀ {os:List FNode} {xs:List Value},NodesC wb lo W os xs→NodesC wb lo W' os xs
 | [],_,h=>h
 | x::os,xs,⟨c,r,h1,h2,h3⟩=>⟨c,r,h1,h2.mono hs,NodesC.mono hs h3⟩
theorem NodesC.snoc {wb:World} {lo:Nat} {W:Own} {x:FNode} {c:List Value} (hx:NodeC wb lo W x c):∀ {os:List FNode} {xs:List Value},NodesC wb lo W os xs→NodesC wb lo W (os++[x]) (xs++c)
 | [],_,h=>by cases h; exact ⟨c,[],by simp,hx,rfl⟩
 | y::os,xs,⟨c',r,h1,h2,h3⟩=>⟨c',r++c,by rw[h1,List.append_assoc],h2,NodesC.snoc hx h3⟩
theorem NodesC.get {wb:World} {lo:Nat} {W:Own} {x:FNode}:∀ {os:List FNode} {xs:List Value} (i:Nat),NodesC wb lo W os xs→os[i]?=some x→∃ c,NodeC wb lo W x c∧(xs.drop (i * 10)).take 10=c
 | [],_,i,_,h=>by simp at h
 | y::os,xs,0,⟨c,r,h1,h2,h3⟩,h=>by
  simp only[List.getElem?_cons_zero,Option.some.injEq] at h
  subst h
  refine ⟨c,h2,?_⟩
  have:=h2.len
  rw[h1,Nat.zero_mul,List.drop_zero,← this,List.take_left]
 | y::os,xs,i+1,⟨c,r,h1,h2,h3⟩,h=>by
  obtain ⟨c',h4,h5⟩:=NodesC.get i h3 (un h)
  refine ⟨c',h4,?_⟩
  have:=h2.len
  rw[h1,show (i+1) * 10=c.length+i * 10 by omega,← List.drop_drop,List.drop_left]
  exact h5
theorem infoNode:(Tryz.prog.info? 165).map (fun i=>(i.zero,i.size,i.bytes))=some (some (.agg #[.slice none 0 0,str [],.bool false,i64 0,i64 0,i64 0,i64 0,.slice none 0 0,.slice none 0 0,.bool false]),10,136):=by kernel_rfl
def GrowOK (d:Nat):Prop:=∀ (wb w:World) (L A M:Own) (lo:Nat) (v:Value) (os:List FNode) (xs:List Value) (path:List Nat) (pv:Value) (l:List Fld) (a:Option Addr) (c:Nat) (ind:Bool),
 Sy wb L w→lo≤wb.heap.size→(∀ p∈A++M,wb.heap.size≤p.1)→RowO wb 165 10 L (A++M) v os.length xs→NodesC wb lo A os xs→os.length≤257→RowIn A 3 pv path.length (ints path)→path.length+d+1=65 →
 Rd wb lo a l→l.length≤c→c≤9223372036854775807 →
 Calls Tryz.prog 122 #[.slice a l.length c,pv,.bool ind,v] w (fun e w'=>∃ v' L',e=.returned v'∧Sy wb L' w'∧∃ A' xs',RowO wb 165 10 L' (A'++M) v' ((os++nd (d+1) path ind l).take 257).length xs'∧NodesC wb lo A' ((os++nd (d+1) path ind l).take 257) xs'∧(∀ p∈A',wb.heap.size≤p.1)∧∀ p∈A,p∈A')
structure GrowI (w0:World) (A0 M:Own) (lo:Nat) (os:List FNode) (path:List Nat) (pv:Value) (ind:Bool) (l:List Fld) (a:Option Addr) (c d:Nat) (i:Nat) (wb:World) (e:Env) (ds:List Deferred) (L:Own):Prop where
 hw:wb=w0
 hds:ds=[]
 o:∃ A xs,RowO w0 165 10 L (A++M) (e 3) ((os++ndAt d path ind l i).take 257).length xs∧NodesC w0 lo A ((os++ndAt d path ind l i).take 257) xs∧(∀ p∈A,w0.heap.size≤p.1)∧∀ p∈A0,p∈A
 il:i≤l.length
 h0:e 0=.slice a l.length c
 h1:e 1=pv
 h2:e 2=.bool ind
 h12:e 12=.slice a l.length c
 h13:e 13=i64 l.length
 h14:e 14=i64 i
theorem grow_step (d:Nat) (ih:∀ d',d=d'+1→GrowOK d'):GrowOK d:=by
 intro wb w L A M lo v os xs path pv l a c ind hw hlo hAM hro hno hos hpv hd hr hc hc2
 refine enterB (args:=[.slice a l.length c,pv,.bool ind,v]) Tryz.func122 rfl Tryz.ntmps122 (congrArg Array.toList Tryz.results122) (by kernel_rfl) (by simp) hw ?_
 refine sp ?_
 repeat' (first|((first|((first|refine gT rfl ?_ ?_|refine gF rfl ?_ ?_|refine cdD ?_ ?_)<;>intro h)|((first|refine gbT rfl ?_ ?_|refine gbF rfl ?_ ?_|refine cdB ?_ ?_)<;>intro h<;>(try subst h))|refine lOa Shp.eq rfl ?_|refine lAa Shp.eq rfl rfl ?_|refine newI (fun b hb hn=>?_)|refine sXb Siz.eq rfl rfl ?_)<;>simp (disch:=omega) only[push_cast,qE]))
 rw[Vb]
 refine sp ?_
 have h00:(os++ndAt d path ind l 0).take 257=os:=by rw[ndAt_zero,List.append_nil,List.take_of_length_le hos]
 refine loopW (G:=Nat) (GrowI wb A M lo os path pv ind l a c d) (fun i=>l.length - i) 0 L (fun w hw=>hw) (by kernel_rfl) ⟨rfl,rfl,⟨A,xs,by rw[h00]; exact hro,by rw[h00]; exact hno,fun p hp=>hAM p (qL _ hp),fun p hp=>hp⟩,by omega,rfl,rfl,rfl,rfl,rfl,rfl⟩ ?_
 have hM:∀ p∈M,wb.heap.size≤p.1:=fun p hp=>hAM p (qR _ hp)
 clear hw hro hno h00 hAM
 rintro i wb e ds L ⟨rfl,rfl,⟨A1,xs1,hro,hno,hA1,hAA⟩,hil,h0,h1,h2,h12,h13,h14⟩
 obtain ⟨v0,h3⟩:∃ v0,e 3=v0:=⟨_,rfl⟩
 rw[h3] at hro
 obtain ⟨va,vc,rfl⟩:=hro.is_slice
 obtain ⟨pa,pc,rfl⟩:=hpv.is_slice
 have hAM:∀ p∈A1++M,wb.heap.size≤p.1:=(nA hA1 hM)
 simp (disch:=omega) only[push_cast,qE,h0,h1,h2,h3,h12,h13,h14]
 rw[Vc]
 simp (disch:=omega) only[push_cast,qE,h0,h1,h2,h3,h12,h13,h14]
 refine cdD (fun hlt=>?_) (fun hge=>?_)
 ·obtain ⟨f,hf⟩:∃ f,l[i]?=some f:=⟨_,List.getElem?_eq_getElem (by omega)⟩
  obtain ⟨b,off,rfl,hb⟩:∃ b off,a=some ⟨b,off,none⟩∧b < lo:=by
   obtain ⟨f0,l0,rfl⟩:∃ f l',l=f::l':=List.exists_cons_of_ne_nil (by rintro rfl; simp at hf)
   exact hr.some_of
  obtain ⟨fa,fc,x1,x2,x3,x4,x5,x6⟩:=hr.get i hf
  simp (disch:=omega) only[push_cast,qE,h0,h1,h2,h3,h12,h13,h14]
  rw[Vb]
  simp (disch:=omega) only[push_cast,qE,h0,h1,h2,h3,h12,h13,h14]
  refine ldAggF sh_26 x2 rfl (out_of (fun p hp=>Nat.lt_of_lt_of_le (Nat.lt_of_lt_of_le x1 hlo) (hro.new hAM p hp))) ?_
  simp (disch:=omega) only[push_cast,qE,h0,h1,h2,h3,h12,h13,h14,Fld.cells]
  refine newI (fun bf hbf hnf=>?_)
  simp (disch:=omega) only[push_cast,qE,h0,h1,h2,h3,h12,h13,h14]
  repeat' (first|((first|((first|refine gT rfl ?_ ?_|refine gF rfl ?_ ?_|refine cdD ?_ ?_)<;>intro h)|((first|refine gbT rfl ?_ ?_|refine gbF rfl ?_ ?_|refine cdB ?_ ?_)<;>intro h<;>(try subst h))|refine lOa Shp.eq rfl ?_|refine lAa Shp.eq rfl rfl ?_|refine newI (fun b hb hn=>?_)|refine sXb Siz.eq rfl rfl ?_)<;>simp (disch:=omega) only[push_cast,qE,h0,h1,h2,h3,h12,h13,h14]))
  rw[Vc]
  simp (disch:=omega) only[push_cast,qE,h0,h1,h2,h3,h12,h13,h14]
  refine cdD (fun hfull=>?_) (fun hroom=>?_)
  ·simp (disch:=omega) only[push_cast,qE,h0,h1,h2,h3,h12,h13,h14]
   have hpre:=nd_prefix d path ind l i
   obtain ⟨tl,htl⟩:=hpre
   have hsame:(os++nd (d+1) path ind l).take 257=(os++ndAt d path ind l i).take 257:=by
    rw[← htl,← List.append_assoc]
    refine List.take_append_of_le_length ?_
    have:=List.length_take_le 257 (os++ndAt d path ind l i)
    rw[List.length_take] at hfull
    omega
   rw[hsame]
   exact fun w' hw'=>⟨_,L,rfl,hw'.mid [] [_] (fun p hp=>by rw[List.mem_singleton.1 hp]; exact hbf),A1,xs1,hro,hno,hA1,hAA⟩
  ·rw[List.length_take] at hroom
   have hosl:(os++ndAt d path ind l i).length≤256:=by omega
   have hosi:(os++ndAt d path ind l i).take 257=os++ndAt d path ind l i:=List.take_of_length_le (by omega)
   rw[hosi] at hro hno h3
   simp (disch:=omega) only[push_cast,qE,h0,h1,h2,h3,h12,h13,h14]
   rw[show ((path.length:Int)+1)=((path.length+1:Nat):Int) from rfl]
   refine makeX .i64 .i64 un_76 infoInt rfl (by omega) (by omega) (newI fun bw hbw hnw=>?_)
   simp (disch:=omega) only[push_cast,qE,h0,h1,h2,h3,h12,h13,h14]
   have hrep:ints path++(List.replicate (path.length+1) (Value.int .i64 0)).drop path.length=ints path++[.int .i64 0]:=by
    rw[List.drop_replicate,Nat.add_sub_cancel_left]; rfl
   refine copyX un_76 sz_3 (n:=path.length) (xs:=ints path) (by omega) (by simp) (hpv.mono fun p hp=>.tail _ (hro.mem (qL _ (hAA p hp)))) (ints_one path) (fun u=>?_)
   rw[hrep]
   simp (disch:=omega) only[push_cast,qE,h0,h1,h2,h3,h12,h13,h14]
   refine stX 0 rfl (by exact sz_3) rfl rfl (by simp[qC]) (by simp[ints]) ?_
   have hspl:splice (ints path++[Value.int .i64 0]) (path.length * 1) [i64 i]=ints (path++[i]):=by
    have:(ints path).length=path.length:=by simp[ints]
    simp only[splice,Nat.mul_one,qN,qO]
    rw[← this,List.take_left,List.drop_of_length_le (by simp)]
    simp[ints]
   rw[hspl]
   simp (disch:=omega) only[push_cast,qE,h0,h1,h2,h3,h12,h13,h14]
   have hnew2:∀ p∈((bw,Obj.cells (ints (path++[i])).toArray 3 (0,0))::(qb0 bf f fa fc)::L),wb.heap.size≤p.1:=fun p hp=>by
    simp only[List.mem_cons] at hp
    rcases hp with rfl|rfl|hp
    ·exact hbw
    ·exact hbf
    ·exact hro.new hAM p hp
   have hlen:(l.take i).length=i:=by rw[List.length_take]; omega
   refine freeT [0,1,2,3,4,5,6,7] [8,9,10] [(qb0 bf f fa fc)] (by kernel_rfl) mixed (by kernel_rfl) (Stab.of (.cons _ (.cons_cons _ (List.nil_sublist _))) hnew2) ?_
   simp (disch:=omega) only[push_cast,qE,h0,h1,h2,h3,h12,h13,h14]
   refine lAg sh_26 (.head _) rfl rfl ?_
   simp (disch:=omega) only[push_cast,qE,h0,h1,h2,h3,h12,h13,h14]
   refine bs_161_1 (newI fun b8 hb8 hn8=>?_)
   simp (disch:=omega) only[push_cast,qE,h0,h1,h2,h3,h12,h13,h14]
   have hnew3:∀ p∈((b8,Obj.cells #[.slice (some ⟨bw,0,none⟩) (path.length+1) (path.length+1),str f.nm,.bool f.nl,i64 f.k,i64 f.wd,i64 f.id,i64 f.ix,.slice fa f.sub.length fc,.slice (some ⟨b,off,none⟩) i c,.bool ind] 165 (0,0))::(bw,Obj.cells (ints (path++[i])).toArray 3 (0,0))::(qb0 bf f fa fc)::L),wb.heap.size≤p.1:=(nC hb8 hnew2)
   refine ⟨Stab.of (.cons _ (.cons _ (.cons_cons _ (List.nil_sublist _)))) hnew3,?_⟩
   obtain ⟨L4,hro4,hs4⟩:=hro.overs [(b8,Obj.cells #[.slice (some ⟨bw,0,none⟩) (path.length+1) (path.length+1),str f.nm,.bool f.nl,i64 f.k,i64 f.wd,i64 f.id,i64 f.ix,.slice fa f.sub.length fc,.slice (some ⟨b,off,none⟩) i c,.bool ind] 165 (0,0)),(bw,Obj.cells (ints (path++[i])).toArray 3 (0,0)),(qb0 bf f fa fc)]
   have hA2:∀ p∈([(b8,Obj.cells #[.slice (some ⟨bw,0,none⟩) (path.length+1) (path.length+1),str f.nm,.bool f.nl,i64 f.k,i64 f.wd,i64 f.id,i64 f.ix,.slice fa f.sub.length fc,.slice (some ⟨b,off,none⟩) i c,.bool ind] 165 (0,0)),(bw,Obj.cells (ints (path++[i])).toArray 3 (0,0)),(qb0 bf f fa fc)]++(A1++M)),wb.heap.size≤p.1:=fun p hp=>by
    rcases List.mem_append.1 hp with hp|hp
    ·simp only[List.mem_cons,List.mem_nil_iff,or_false] at hp
     rcases hp with rfl|rfl|rfl<;>assumption
    ·exact hAM p hp
   have hx:NodeC wb lo ([(b8,Obj.cells #[.slice (some ⟨bw,0,none⟩) (path.length+1) (path.length+1),str f.nm,.bool f.nl,i64 f.k,i64 f.wd,i64 f.id,i64 f.ix,.slice fa f.sub.length fc,.slice (some ⟨b,off,none⟩) i c,.bool ind] 165 (0,0)),(bw,Obj.cells (ints (path++[i])).toArray 3 (0,0)),(qb0 bf f fa fc)]++A1) ⟨path++[i],l.take i,f,ind⟩ [.slice (some ⟨bw,0,none⟩) (path.length+1) (path.length+1),str f.nm,.bool f.nl,i64 f.k,i64 f.wd,i64 f.id,i64 f.ix,.slice fa f.sub.length fc,.slice (some ⟨b,off,none⟩) i c,.bool ind] :=
    ⟨bw,fa,some ⟨b,off,none⟩,fc,c,by rw[show (path++[i]).length=path.length+1 by simp,hlen],.tail _ (.head _),hbw,by simp; omega,x6,x3,x5,x4,hr.take i,by rw[hlen]; omega,hc2⟩
   have hno2:=NodesC.snoc hx (hno.mono fun p hp=>qR [(b8,Obj.cells #[.slice (some ⟨bw,0,none⟩) (path.length+1) (path.length+1),str f.nm,.bool f.nl,i64 f.k,i64 f.wd,i64 f.id,i64 f.ix,.slice fa f.sub.length fc,.slice (some ⟨b,off,none⟩) i c,.bool ind] 165 (0,0)),(bw,Obj.cells (ints (path++[i])).toArray 3 (0,0)),(qb0 bf f fa fc)] hp)
   refine valX_weak hs4 (appendI un_161 infoNode rfl hro4 (news:=[.slice (some ⟨bw,0,none⟩) (path.length+1) (path.length+1),str f.nm,.bool f.nl,i64 f.k,i64 f.wd,i64 f.id,i64 f.ix,.slice fa f.sub.length fc,.slice (some ⟨b,off,none⟩) i c,.bool ind]) (m:=1) rfl (CanRead.of_own (n:=10) (hro4.mem (.head _)) rfl rfl) hx.one (by simp only[maxLen]; omega) (by omega) (fun v2 L5 hro5 _=>?_))
   have hst5:Stab wb L5 [(qb0 bf f fa fc)]:=Stab.of (List.singleton_sublist.2 (hro5.mem (.tail _ (.tail _ (.head _))))) (hro5.new hA2)
   simp (disch:=omega) only[push_cast,qE,h0,h1,h2,h3,h12,h13,h14]
   refine ⟨hst5,hst5,?_⟩
   have hA3:∀ p∈([(b8,Obj.cells #[.slice (some ⟨bw,0,none⟩) (path.length+1) (path.length+1),str f.nm,.bool f.nl,i64 f.k,i64 f.wd,i64 f.id,i64 f.ix,.slice fa f.sub.length fc,.slice (some ⟨b,off,none⟩) i c,.bool ind] 165 (0,0)),(bw,Obj.cells (ints (path++[i])).toArray 3 (0,0)),(qb0 bf f fa fc)]++A1)++M,wb.heap.size≤p.1:=fun p hp=>hA2 p (by rw[List.append_assoc] at hp; exact hp)
   have hro6:RowO wb 165 10 L5 (([(b8,Obj.cells #[.slice (some ⟨bw,0,none⟩) (path.length+1) (path.length+1),str f.nm,.bool f.nl,i64 f.k,i64 f.wd,i64 f.id,i64 f.ix,.slice fa f.sub.length fc,.slice (some ⟨b,off,none⟩) i c,.bool ind] 165 (0,0)),(bw,Obj.cells (ints (path++[i])).toArray 3 (0,0)),(qb0 bf f fa fc)]++A1)++M) v2 (os++ndAt d path ind l i++[(⟨path++[i],l.take i,f,ind⟩:FNode)]).length (xs1++[.slice (some ⟨bw,0,none⟩) (path.length+1) (path.length+1),str f.nm,.bool f.nl,i64 f.k,i64 f.wd,i64 f.id,i64 f.ix,.slice fa f.sub.length fc,.slice (some ⟨b,off,none⟩) i c,.bool ind]):=by
    rw[List.append_assoc]
    exact hro5.cast (by simp only[qA,qN,qO]) rfl
   have hway:RowIn ([(b8,Obj.cells #[.slice (some ⟨bw,0,none⟩) (path.length+1) (path.length+1),str f.nm,.bool f.nl,i64 f.k,i64 f.wd,i64 f.id,i64 f.ix,.slice fa f.sub.length fc,.slice (some ⟨b,off,none⟩) i c,.bool ind] 165 (0,0)),(bw,Obj.cells (ints (path++[i])).toArray 3 (0,0)),(qb0 bf f fa fc)]++A1) 3 (.slice (some ⟨bw,0,none⟩) (path.length+1) (path.length+1)) (path++[i]).length (ints (path++[i])) :=
    ⟨by simp[ints],.inr ⟨bw,path.length+1,ints (path++[i]),by simp,.tail _ (.head _),by simp,by simp only[maxLen]; omega,by simp[ints],List.take_of_length_le (by simp[ints])⟩⟩
   rw[Vc]
   simp (disch:=omega) only[push_cast,qE,h0,h1,h2,h3,h12,h13,h14]
   refine cdD (fun hle=>?_) (fun hgt=>?_)
   ·obtain ⟨d',rfl⟩:∃ d',d=d'+1:=⟨d - 1,by omega⟩
    simp (disch:=omega) only[push_cast,qE,h0,h1,h2,h3,h12,h13,h14]
    refine lOn sh_22 (hro5.mem (.tail _ (.tail _ (.head _)))) rfl ?_
    simp (disch:=omega) only[push_cast,qE,h0,h1,h2,h3,h12,h13,h14]
    rcases ind with _|_
    ·simp (disch:=omega) only[push_cast,qE,h0,h1,h2,h3,h12,h13,h14]
     refine lOn sh_3 (hro5.mem (.tail _ (.tail _ (.head _)))) rfl ?_
     simp (disch:=omega) only[push_cast,qE,h0,h1,h2,h3,h12,h13,h14]
     refine callV en_122 (callX_own (fun w' hw'=>ih d' rfl wb w' L5 ([(b8,Obj.cells #[.slice (some ⟨bw,0,none⟩) (path.length+1) (path.length+1),str f.nm,.bool f.nl,i64 f.k,i64 f.wd,i64 f.id,i64 f.ix,.slice fa f.sub.length fc,.slice (some ⟨b,off,none⟩) i c,.bool false] 165 (0,0)),(bw,Obj.cells (ints (path++[i])).toArray 3 (0,0)),(qb0 bf f fa fc)]++A1) M lo v2 (os++ndAt (d'+1) path false l i++[(⟨path++[i],l.take i,f,false⟩:FNode)]) _ (path++[i]) (.slice (some ⟨bw,0,none⟩) (path.length+1) (path.length+1)) f.sub fa fc (false || f.k == 19) hw' hlo hA3 hro6 hno2 (by rw[qA]; simp only[qN,qO]; omega) hway (by simp; omega) x6 x3 x5) (fun v7 L7 ⟨A7,xs7,hro7,hno7,hA7,hAA7⟩=>?_))
     simp (disch:=omega) only[push_cast,qE,h0,h1,h2,h3,h12,h13,h14]
     have heq:(os++ndAt (d'+1) path false l i++[(⟨path++[i],l.take i,f,false⟩:FNode)]++nd (d'+1) (path++[i]) (false || f.k == 19) f.sub).take 257=(os++ndAt (d'+1) path false l (i+1)).take 257:=by
      rw[ndAt_succ (d'+1) path false l i f hf]
      simp only[List.append_assoc,List.cons_append,List.nil_append]
     rw[heq] at hro7 hno7
     exact ⟨i+1,L7,fun w hw=>hw,⟨rfl,rfl,⟨A7,xs7,hro7,hno7,hA7,fun p hp=>hAA7 p (qR _ (hAA p hp))⟩,by omega,h0,h1,h2,h12,h13,uu⟩,by omega⟩
    ·simp (disch:=omega) only[push_cast,qE,h0,h1,h2,h3,h12,h13,h14]
     refine callV en_122 (callX_own (fun w' hw'=>ih d' rfl wb w' L5 ([(b8,Obj.cells #[.slice (some ⟨bw,0,none⟩) (path.length+1) (path.length+1),str f.nm,.bool f.nl,i64 f.k,i64 f.wd,i64 f.id,i64 f.ix,.slice fa f.sub.length fc,.slice (some ⟨b,off,none⟩) i c,.bool true] 165 (0,0)),(bw,Obj.cells (ints (path++[i])).toArray 3 (0,0)),(qb0 bf f fa fc)]++A1) M lo v2 (os++ndAt (d'+1) path true l i++[(⟨path++[i],l.take i,f,true⟩:FNode)]) _ (path++[i]) (.slice (some ⟨bw,0,none⟩) (path.length+1) (path.length+1)) f.sub fa fc (true || f.k == 19) hw' hlo hA3 hro6 hno2 (by rw[qA]; simp only[qN,qO]; omega) hway (by simp; omega) x6 x3 x5) (fun v7 L7 ⟨A7,xs7,hro7,hno7,hA7,hAA7⟩=>?_))
     simp (disch:=omega) only[push_cast,qE,h0,h1,h2,h3,h12,h13,h14]
     have heq:(os++ndAt (d'+1) path true l i++[(⟨path++[i],l.take i,f,true⟩:FNode)]++nd (d'+1) (path++[i]) (true || f.k == 19) f.sub).take 257=(os++ndAt (d'+1) path true l (i+1)).take 257:=by
      rw[ndAt_succ (d'+1) path true l i f hf]
      simp only[List.append_assoc,List.cons_append,List.nil_append]
     rw[heq] at hro7 hno7
     exact ⟨i+1,L7,fun w hw=>hw,⟨rfl,rfl,⟨A7,xs7,hro7,hno7,hA7,fun p hp=>hAA7 p (qR _ (hAA p hp))⟩,by omega,h0,h1,h2,h12,h13,uu⟩,by omega⟩
   ·obtain rfl:d=0:=by omega
    simp (disch:=omega) only[push_cast,qE,h0,h1,h2,h3,h12,h13,h14]
    have heq:(os++ndAt 0 path ind l (i+1)).take 257=os++ndAt 0 path ind l i++[(⟨path++[i],l.take i,f,ind⟩:FNode)]:=by
     rw[ndAt_succ 0 path ind l i f hf,← List.append_assoc]
     exact List.take_of_length_le (by rw[qA]; simp only[nd,qN,qO]; omega)
    exact ⟨i+1,L5,fun w hw=>hw,⟨rfl,rfl,⟨[(b8,Obj.cells #[.slice (some ⟨bw,0,none⟩) (path.length+1) (path.length+1),str f.nm,.bool f.nl,i64 f.k,i64 f.wd,i64 f.id,i64 f.ix,.slice fa f.sub.length fc,.slice (some ⟨b,off,none⟩) i c,.bool ind] 165 (0,0)),(bw,Obj.cells (ints (path++[i])).toArray 3 (0,0)),(qb0 bf f fa fc)]++A1,_,by rw[heq]; exact hro6,by rw[heq]; exact hno2,fun p hp=>hA3 p (qL _ hp),fun p hp=>qR _ (hAA p hp)⟩,by omega,h0,h1,h2,h12,h13,uu⟩,by omega⟩
 ·obtain rfl:i=l.length:=by omega
  simp (disch:=omega) only[push_cast,qE,h0,h1,h2,h3,h12,h13,h14]
  rw[← ndAt_all d path ind l l.length (Nat.le_refl _)]
  exact fun w' hw'=>⟨_,L,rfl,hw',A1,xs1,hro,hno,hA1,hAA⟩
theorem grow_ok:∀ d,GrowOK d
 | 0=>grow_step 0 (fun d' h=>by cases h)
 | d+1=>grow_step (d+1) (fun d' h=>by cases h; exact grow_ok d)
theorem letterR_walk (w:World) (c:Int):Calls Tryz.prog 165 #[.int .u8 c] w (Rets w (Is (.bool (decide (letterP c))))):=by
 refine enterT (args:=[.int .u8 c]) Tryz.func165 rfl Tryz.ntmps165 (congrArg Array.toList Tryz.results165) (by kernel_rfl) (by simp) (Sy.refl w) ?_
 refine sp ?_
 repeat' (first|((first|((first|refine gT rfl ?_ ?_|refine gF rfl ?_ ?_|refine cdD ?_ ?_)<;>intro h)|((first|refine gbT rfl ?_ ?_|refine gbF rfl ?_ ?_|refine cdB ?_ ?_)<;>intro h<;>(try subst h))|refine lOa Shp.eq rfl ?_|refine lAa Shp.eq rfl rfl ?_|refine newI (fun b hb hn=>?_)|refine sXb Siz.eq rfl rfl ?_)<;>simp (disch:=omega) only[push_cast,qE])|(first|rw[Vc]|rw[Vb])<;>(try simp (disch:=omega) only[push_cast,qE]))
 all_goals (refine fun w' hw=>⟨_,rfl,hw,?_⟩; first|exact is_t (by omega)|exact is_f (by omega)|exact is_d (by omega))
structure NameRI (w0:World) (l:List UInt8) (k:Nat) (wb:World) (e:Env) (ds:List Deferred) (L:Own):Prop where
 hw:wb=w0
 d:ds=[]
 o:L=[]
 kl:k≤l.length
 n:∀ j,j < k→letterP (l.getD j 0).toNat
 h0:e 0=str l
 h3:e 3=i64 k
theorem isNameR_walk (w:World) (l:List UInt8) (hl:l.length≤9223372036854775807):Calls Tryz.prog 147 #[str l] w (Rets w fun v _=>∃ b,v=.bool b∧(b=true↔isName l)):=by
 refine enterT (args:=[str l]) Tryz.func147 rfl Tryz.ntmps147 (congrArg Array.toList Tryz.results147) (by kernel_rfl) (by simp) (Sy.refl w) ?_
 refine sp ?_
 have bad:(l.length < 1∨48 < l.length∨(48≤(l.getD 0 0).toNat∧(l.getD 0 0).toNat≤57))→¬ isName l:=fun h hn=>by
  obtain ⟨h1,h2,h3⟩:=hn
  have hpos:0 < l.length:=by
   rcases Nat.eq_zero_or_pos l.length with h|h
   ·exact absurd (List.eq_nil_of_length_eq_zero h) h2
   ·exact h
  have:=(h1 0 hpos).2
  omega
 repeat' (first|((first|((first|refine gT rfl ?_ ?_|refine gF rfl ?_ ?_|refine cdD ?_ ?_)<;>intro h)|((first|refine gbT rfl ?_ ?_|refine gbF rfl ?_ ?_|refine cdB ?_ ?_)<;>intro h<;>(try subst h))|refine lOa Shp.eq rfl ?_|refine lAa Shp.eq rfl rfl ?_|refine newI (fun b hb hn=>?_)|refine sXb Siz.eq rfl rfl ?_)<;>simp (disch:=omega) only[push_cast,qE])|(first|rw[Vc]|rw[Vb])<;>(try simp (disch:=omega) only[push_cast,qE]))
 all_goals first
  | (refine fun w' hw=>⟨_,rfl,hw,_,rfl,?_⟩; exact ⟨fun h=>(by cases h),fun h=>absurd h (bad (by omega))⟩)
  | skip
 all_goals
  refine loopT (G:=Nat) (NameRI w l) (fun k=>l.length - k) 0 (by kernel_rfl) ⟨rfl,rfl,rfl,by omega,fun j h=>by omega,rfl,rfl⟩ ?_
  rintro k wb e ds L ⟨rfl,rfl,rfl,hk,hn,h0,h3⟩
  simp (disch:=omega) only[push_cast,qE,h0,h3]
  rw[Vc]
  simp (disch:=omega) only[push_cast,qE,h0,h3]
  refine cdD (fun hlt=>?_) (fun hge=>?_)
  ·simp (disch:=omega) only[push_cast,qE,h0,h3]
   rw[Vb]
   simp (disch:=omega) only[push_cast,qE,h0,h3]
   refine callV en_165 (cIs (fun w _=>letterR_walk w _) ?_)
   simp (disch:=omega) only[push_cast,qE,h0,h3]
   rw[Vc]
   simp (disch:=omega) only[push_cast,qE,h0,h3]
   refine cdD (fun hb=>?_) (fun hb=>?_)
   ·simp (disch:=omega) only[push_cast,qE,h0,h3]
    refine fun w' hw=>⟨_,rfl,hw,_,rfl,?_⟩
    exact ⟨fun h=>(by cases h),fun h=>absurd (h.1 k (by omega)).1 hb⟩
   ·simp (disch:=omega) only[push_cast,qE,h0,h3]
    refine ⟨k+1,⟨rfl,rfl,rfl,by omega,fun j hj=>?_,h0,uu⟩,by omega⟩
    rcases Nat.lt_or_ge j k with h|h
    ·exact hn j h
    ·obtain rfl:j=k:=by omega
     exact Decidable.not_not.1 hb
  ·obtain rfl:k=l.length:=by omega
   simp (disch:=omega) only[push_cast,qE,h0,h3]
   refine fun w' hw=>⟨_,rfl,hw,_,rfl,?_⟩
   refine ⟨fun _=>⟨fun j hj=>⟨hn j hj,fun h=>?_⟩,fun h=>?_,by omega⟩,fun _=>rfl⟩
   ·omega
   ·have h9:=congrArg List.length h
    simp only[qO] at h9
    omega
theorem nullsR_walk (w:World) (f:Fld) (a:Option Addr) (c:Nat) (hk:f.k=20→f.sub≠[]) (hr:Rd w w.heap.size a f.sub) :
 Calls Tryz.prog 149 #[.agg (f.cells a c).toArray] w (Rets w (Is (.bool (nullsB f)))):=by
 refine enterT (args:=[.agg (f.cells a c).toArray]) Tryz.func149 rfl Tryz.ntmps149 (congrArg Array.toList Tryz.results149) (by kernel_rfl) (by simp) (Sy.refl w) ?_
 simp (disch:=omega) only[push_cast,qE,Fld.cells]
 repeat' (first|((first|((first|refine gT rfl ?_ ?_|refine gF rfl ?_ ?_|refine cdD ?_ ?_)<;>intro h)|((first|refine gbT rfl ?_ ?_|refine gbF rfl ?_ ?_|refine cdB ?_ ?_)<;>intro h<;>(try subst h))|refine lOa Shp.eq rfl ?_|refine lAa Shp.eq rfl rfl ?_|refine newI (fun b hb hn=>?_)|refine sXb Siz.eq rfl rfl ?_)<;>simp (disch:=omega) only[push_cast,qE])|(first|rw[Vc]|rw[Vb])<;>(try simp (disch:=omega) only[push_cast,qE]))
 case refine_2.refine_2.refine_1 =>
  rename_i h2 h
  obtain ⟨g,l,hl⟩:∃ g l,f.sub=g::l:=List.exists_cons_of_ne_nil (hk h)
  have hlen:0 < f.sub.length:=by rw[hl]; simp
  rw[hl] at hr
  obtain ⟨b',off,rfl,hb'⟩:=hr.some_of
  obtain ⟨a',c',x1,x2,x3⟩:=hr.get 0 rfl
  refine drawQT (by kernel_rfl) (by kernel_rfl) mixed (by kernel_rfl) ?_
  refine sp ?_
  repeat' (first|((first|((first|refine gT rfl ?_ ?_|refine gF rfl ?_ ?_|refine cdD ?_ ?_)<;>intro h)|((first|refine gbT rfl ?_ ?_|refine gbF rfl ?_ ?_|refine cdB ?_ ?_)<;>intro h<;>(try subst h))|refine lOa Shp.eq rfl ?_|refine lAa Shp.eq rfl rfl ?_|refine newI (fun b hb hn=>?_)|refine sXb Siz.eq rfl rfl ?_)<;>simp (disch:=omega) only[push_cast,qE])|(first|rw[Vc]|rw[Vb])<;>(try simp (disch:=omega) only[push_cast,qE]))
  refine ldF (by exact sh_4) (x2.sub 1 [.bool g.nl] rfl) (out_of (by simp only[List.mem_singleton]; rintro p rfl; simp only; omega)) ?_
  refine sp ?_
  refine fun w' hw=>⟨_,rfl,hw.drop (List.nil_sublist _) (fun p hp=>.inr (by simp at hp; rw[hp]; assumption)),?_⟩
  simp only[Is,nullsB,h,hl,h2,if_true,if_false]
  rfl
 all_goals (refine fun w' hw=>⟨_,rfl,hw.drop (List.nil_sublist _) (fun p hp=>.inr (by simp at hp; rw[hp]; assumption)),?_⟩)
 all_goals simp only[Is,nullsB,if_true,if_false, *]
 all_goals simp
abbrev idP (k id:Int):Prop:=if k=19 then 0≤id∧id < 32 else id=0
abbrev ixP (k ix:Int):Prop:=if k=19 then 3≤ix∧ix≤10 else ix=0
theorem wide_14 {k wd:Int} (h:k=14):wideP k wd↔1≤wd∧wd≤16:=by subst h; simp[wideP,widthK]
theorem wide_16 {k wd:Int} (h:k=16):wideP k wd↔1≤wd∧wd≤64:=by subst h; simp[wideP,widthK]
theorem wide_o {k wd:Int} (h:k≠14) (h2:k≠16):wideP k wd↔wd=0:=by simp[wideP,widthK,h,h2]
theorem id_19 {k id:Int} (h:k=19):idP k id↔0≤id∧id < 32:=by simp[idP,h]
theorem id_o {k id:Int} (h:k≠19):idP k id↔id=0:=by simp[idP,h]
theorem ix_19 {k ix:Int} (h:k=19):ixP k ix↔3≤ix∧ix≤10:=by simp[ixP,h]
theorem ix_o {k ix:Int} (h:k≠19):ixP k ix↔ix=0:=by simp[ixP,h]
theorem shaped_iff {k wd id ix:Int} {n:Nat}:shapedP k wd id ix n↔(1≤k∧k≤20)∧wideP k wd∧idP k id∧ixP k ix∧leastK k≤n∧(n:Int)≤mostK k:=by
 have:toldP k id ix↔idP k id∧ixP k ix:=by
  unfold toldP idP ixP
  by_cases h:k=19
  ·simp only[if_pos h]; exact ⟨fun ⟨a,b,c,d⟩=>⟨⟨a,b⟩,c,d⟩,fun ⟨⟨a,b⟩,c,d⟩=>⟨a,b,c,d⟩⟩
  ·simp only[if_neg h]
 unfold shapedP
 rw[this]
 exact ⟨fun ⟨a,b,⟨c,d⟩,e,f⟩=>⟨a,b,c,d,e,f⟩,fun ⟨a,b,c,d,e,f⟩=>⟨a,b,⟨c,d⟩,e,f⟩⟩
structure ShapI (w0:World) (b:Nat) (k wd id ix:Int) (a:Option Addr) (n c:Nat) (wb:World) (e:Env) (ds:List Deferred) (L:Own):Prop where
 hw:wb=w0
 d:ds=[]
 o:L=[(b,.cells #[i64 k,i64 wd,i64 id,i64 ix,.slice a n c] 24 (0,0))]
 h1:e 1=.pointer (some ⟨b,0,none⟩)
 h3:e 3=i64 (leastK k)
 h4:e 4=i64 (mostK k)
 h5:e 5=.bool (decide (wideP k wd))
 h6:e 6=.bool (decide (idP k id))
 h7:e 7=.bool (decide (ixP k ix))
theorem shapedR_walk (w:World) (k wd id ix:Int) (a:Option Addr) (n c:Nat):Calls Tryz.prog 148 #[.agg #[i64 k,i64 wd,i64 id,i64 ix,.slice a n c]] w (Rets w (Is (.bool (decide (shapedP k wd id ix n))))):=by
 refine enterT (args:=[.agg #[i64 k,i64 wd,i64 id,i64 ix,.slice a n c]]) Tryz.func148 rfl Tryz.ntmps148 (congrArg Array.toList Tryz.results148) (by kernel_rfl) (by simp) (Sy.refl w) ?_
 refine sp ?_
 refine newI (fun b hb hn=>?_)
 refine sp ?_
 repeat' (first|((first|refine gT rfl (fun h=>?_) (fun h=>?_)|refine gF rfl (fun h=>?_) (fun h=>?_)|refine cdD (fun h=>?_) (fun h=>?_)|(refine gbT rfl (fun h=>?_) (fun h=>?_)<;>(try subst h))|(refine gbF rfl (fun h=>?_) (fun h=>?_)<;>(try subst h))|(refine cdB (fun h=>?_) (fun h=>?_)<;>(try subst h))|refine lOn Shp.eq (by (first|exact mem0|exact mem1|exact mem2|exact mem3|exact mem4|exact mem5)) rfl ?_|refine lAg Shp.eq (by (first|exact mem0|exact mem1|exact mem2|exact mem3|exact mem4|exact mem5)) rfl rfl ?_|refine newI (fun b hb hn=>?_)|refine stX 0 rfl Siz.eq rfl rfl (by simp[qC]) (by simp) ?_|refine stX 1 rfl Siz.eq rfl rfl (by simp[qC]) (by simp) ?_|refine stX 2 rfl Siz.eq rfl rfl (by simp[qC]) (by simp) ?_|refine stX 3 rfl Siz.eq rfl rfl (by simp[qC]) (by simp) ?_|refine stX 4 rfl Siz.eq rfl rfl (by simp[qC]) (by simp) ?_|refine stX 5 rfl Siz.eq rfl rfl (by simp[qC]) (by simp) ?_|refine stX 6 rfl Siz.eq rfl rfl (by simp[qC]) (by simp) ?_)<;>simp (disch:=omega) only[push_cast,qE]))
 refine drawQT (by kernel_rfl) (by kernel_rfl) mixed (by kernel_rfl) ?_
 refine sp ?_
 repeat' (first|((first|refine gT rfl (fun h=>?_) (fun h=>?_)|refine gF rfl (fun h=>?_) (fun h=>?_)|refine cdD (fun h=>?_) (fun h=>?_)|(refine gbT rfl (fun h=>?_) (fun h=>?_)<;>(try subst h))|(refine gbF rfl (fun h=>?_) (fun h=>?_)<;>(try subst h))|(refine cdB (fun h=>?_) (fun h=>?_)<;>(try subst h))|refine lOn Shp.eq (by (first|exact mem0|exact mem1|exact mem2|exact mem3|exact mem4|exact mem5)) rfl ?_|refine lAg Shp.eq (by (first|exact mem0|exact mem1|exact mem2|exact mem3|exact mem4|exact mem5)) rfl rfl ?_|refine newI (fun b hb hn=>?_)|refine stX 0 rfl Siz.eq rfl rfl (by simp[qC]) (by simp) ?_|refine stX 1 rfl Siz.eq rfl rfl (by simp[qC]) (by simp) ?_|refine stX 2 rfl Siz.eq rfl rfl (by simp[qC]) (by simp) ?_|refine stX 3 rfl Siz.eq rfl rfl (by simp[qC]) (by simp) ?_|refine stX 4 rfl Siz.eq rfl rfl (by simp[qC]) (by simp) ?_|refine stX 5 rfl Siz.eq rfl rfl (by simp[qC]) (by simp) ?_|refine stX 6 rfl Siz.eq rfl rfl (by simp[qC]) (by simp) ?_)<;>simp (disch:=omega) only[push_cast,qE]))
 refine cutV (ShapI w b k wd id ix a n c) ?_ ?_
 ·rw[Vb]
  refine sp ?_
  repeat' (first|((first|refine gT rfl (fun h=>?_) (fun h=>?_)|refine gF rfl (fun h=>?_) (fun h=>?_)|refine cdD (fun h=>?_) (fun h=>?_)|(refine gbT rfl (fun h=>?_) (fun h=>?_)<;>(try subst h))|(refine gbF rfl (fun h=>?_) (fun h=>?_)<;>(try subst h))|(refine cdB (fun h=>?_) (fun h=>?_)<;>(try subst h))|refine lOn Shp.eq (by (first|exact mem0|exact mem1|exact mem2|exact mem3|exact mem4|exact mem5)) rfl ?_|refine lAg Shp.eq (by (first|exact mem0|exact mem1|exact mem2|exact mem3|exact mem4|exact mem5)) rfl rfl ?_|refine newI (fun b hb hn=>?_)|refine stX 0 rfl Siz.eq rfl rfl (by simp[qC]) (by simp) ?_|refine stX 1 rfl Siz.eq rfl rfl (by simp[qC]) (by simp) ?_|refine stX 2 rfl Siz.eq rfl rfl (by simp[qC]) (by simp) ?_|refine stX 3 rfl Siz.eq rfl rfl (by simp[qC]) (by simp) ?_|refine stX 4 rfl Siz.eq rfl rfl (by simp[qC]) (by simp) ?_|refine stX 5 rfl Siz.eq rfl rfl (by simp[qC]) (by simp) ?_|refine stX 6 rfl Siz.eq rfl rfl (by simp[qC]) (by simp) ?_)<;>simp (disch:=omega) only[push_cast,qE])|(first|rw[Vc]|rw[Vb])<;>(try simp (disch:=omega) only[push_cast,qE]))
  all_goals (refine ⟨rfl,rfl,rfl,rfl,i64_eq ?_,i64_eq ?_,?_,?_,?_⟩)
  all_goals first
   | (unfold leastK; repeat' split; all_goals omega)
   | (unfold mostK; repeat' split; all_goals omega)
   | (refine is_d ?_; rw[wide_14 (by omega)]; first|done|omega)
   | (refine is_t ?_; rw[wide_14 (by omega)]; first|done|omega)
   | (refine is_f ?_; rw[wide_14 (by omega)]; first|done|omega)
   | (refine is_d ?_; rw[wide_16 (by omega)]; first|done|omega)
   | (refine is_t ?_; rw[wide_16 (by omega)]; first|done|omega)
   | (refine is_f ?_; rw[wide_16 (by omega)]; first|done|omega)
   | (refine is_d ?_; rw[wide_o (by omega) (by omega)]; first|done|omega)
   | (refine is_t ?_; rw[wide_o (by omega) (by omega)]; first|done|omega)
   | (refine is_f ?_; rw[wide_o (by omega) (by omega)]; first|done|omega)
   | (refine is_d ?_; rw[id_19 (by omega)]; first|done|omega)
   | (refine is_t ?_; rw[id_19 (by omega)]; first|done|omega)
   | (refine is_f ?_; rw[id_19 (by omega)]; first|done|omega)
   | (refine is_d ?_; rw[id_o (by omega)]; first|done|omega)
   | (refine is_t ?_; rw[id_o (by omega)]; first|done|omega)
   | (refine is_f ?_; rw[id_o (by omega)]; first|done|omega)
   | (refine is_d ?_; rw[ix_19 (by omega)]; first|done|omega)
   | (refine is_t ?_; rw[ix_19 (by omega)]; first|done|omega)
   | (refine is_f ?_; rw[ix_19 (by omega)]; first|done|omega)
   | (refine is_d ?_; rw[ix_o (by omega)]; first|done|omega)
   | (refine is_t ?_; rw[ix_o (by omega)]; first|done|omega)
   | (refine is_f ?_; rw[ix_o (by omega)]; first|done|omega)
 rintro wb e ds L ⟨rfl,rfl,rfl,h1,h3,h4,h5,h6,h7⟩
 simp (disch:=omega) only[push_cast,qE,h1,h3,h4,h5,h6,h7]
 repeat' (first|((first|refine gT rfl (fun h=>?_) (fun h=>?_)|refine gF rfl (fun h=>?_) (fun h=>?_)|refine cdD (fun h=>?_) (fun h=>?_)|(refine gbT rfl (fun h=>?_) (fun h=>?_)<;>(try subst h))|(refine gbF rfl (fun h=>?_) (fun h=>?_)<;>(try subst h))|(refine cdB (fun h=>?_) (fun h=>?_)<;>(try subst h))|refine lOn Shp.eq (by (first|exact mem0|exact mem1|exact mem2|exact mem3|exact mem4|exact mem5)) rfl ?_|refine lAg Shp.eq (by (first|exact mem0|exact mem1|exact mem2|exact mem3|exact mem4|exact mem5)) rfl rfl ?_|refine newI (fun b hb hn=>?_)|refine stX 0 rfl Siz.eq rfl rfl (by simp[qC]) (by simp) ?_|refine stX 1 rfl Siz.eq rfl rfl (by simp[qC]) (by simp) ?_|refine stX 2 rfl Siz.eq rfl rfl (by simp[qC]) (by simp) ?_|refine stX 3 rfl Siz.eq rfl rfl (by simp[qC]) (by simp) ?_|refine stX 4 rfl Siz.eq rfl rfl (by simp[qC]) (by simp) ?_|refine stX 5 rfl Siz.eq rfl rfl (by simp[qC]) (by simp) ?_|refine stX 6 rfl Siz.eq rfl rfl (by simp[qC]) (by simp) ?_)<;>simp (disch:=omega) only[push_cast,qE,h1,h3,h4,h5,h6,h7])|(first|rw[Vc]|rw[Vb])<;>(try simp (disch:=omega) only[push_cast,qE,h1,h3,h4,h5,h6,h7]))
 all_goals (refine fun w' hw=>⟨_,rfl,hw.drop (List.nil_sublist _) (fun p hp=>.inr (by simp at hp; rw[hp]; assumption)),?_⟩)
 all_goals first
  | exact is_f (fun hh=>h (shaped_iff.1 hh).1.1)
  | exact is_f (fun hh=>h (shaped_iff.1 hh).1.2)
  | exact is_f (fun hh=>h (shaped_iff.1 hh).2.1)
  | exact is_f (fun hh=>h (shaped_iff.1 hh).2.2.1)
  | exact is_f (fun hh=>h (shaped_iff.1 hh).2.2.2.1)
  | exact is_f (fun hh=>h (shaped_iff.1 hh).2.2.2.2.1)
  | exact is_d ⟨fun p=>shaped_iff.2 ⟨⟨by omega,by omega⟩,by assumption,by assumption,by assumption,by assumption,p⟩,fun p=>p.2.2.2.2⟩
end Go.Proofs.YtilejcofleeeiaaGreatDoor
