/- YtdmdgkpjjpijdaaGreatDoor: walks, part 206: what is handed in stays; what is answered is new memory. -/
import Derived.Test.YtdmdgkpjjpijdaaGreatDoorW205
import Derived.Test.YtdmdgkpjjpijdaaGreatDoorW201
import Derived.Test.YtdmdgkpjjpijdaaGreatDoorW53
import Derived.Test.YtdmdgkpjjpijdaaGreatDoorW51
namespace Go.Proofs.YtdmdgkpjjpijdaaGreatDoor
open Go Go.K
open Nat renaming reduceEqDiff → qE
open List renaming mem_cons → qM, mem_append_right → qR, mem_append_left → qL, length_append → qA, mem_nil_iff → qI
set_option maxRecDepth 100000
set_option linter.unusedVariables false
set_option linter.unusedSimpArgs false
set_option maxHeartbeats 8000000
abbrev bhF:Fld:=.mk [98,101,104,105,110,100] false 0 0 0 0 []
abbrev itF:Fld:=.mk [105,116] false 0 0 0 0 []
theorem OwK.two {l:List Fld} {K:Own} {xs:List Value} (h:OwK l K xs):OwK (l++[bhF,itF]) K (xs++(bhF.cells none 0++itF.cells none 0)):=by
 have h0:∀ f:Fld,f.nm.length≤9223372036854775807→f.sub=[]→OwF f [] none 0:=fun f h1 h2=>(OwF_iff _ _ _ _).2 ⟨h1,.inl ⟨h2,rfl,rfl,rfl⟩⟩
 have h1:=OwK.append (OwK.append (OwK.single (h0 itF (by simp[Fld.nm]) rfl)) (OwK.single (h0 bhF (by simp[Fld.nm]) rfl))) h
 simpa using h1
theorem appendTwo {wb:World} {K M:Own} {l:List Fld} {a:Option Addr} {b48 ty:Nat} {KK:Value→World→Own→Prop} (hO:OwS l K a l.length) (hl:l.length≤1048576)
 (hK:∀ (b cap:Nat) (cs:List Value) (K0:Own),wb.heap.size≤b→l.length+2≤cap→(∀ p∈K0,p∈K)→OwS (l++[bhF,itF]) ((b,Obj.cells cs.toArray 37 (0,0))::K0) (some ⟨b,0,none⟩) cap→OwS l ((b,Obj.cells cs.toArray 37 (0,0))::K0) (some ⟨b,0,none⟩) cap →
  KK (.slice (some ⟨b,0,none⟩) (l.length+2) cap) wb ((b,Obj.cells cs.toArray 37 (0,0))::(b48,Obj.cells (bhF.cells none 0++itF.cells none 0).toArray 37 (0,0))::(K++M))) :
 ValX Tryz.prog (Builtin.append_ #[24,24] ty #[.slice a l.length l.length,.slice (some ⟨b48,0,none⟩) 2 2]) wb ((b48,Obj.cells (bhF.cells none 0++itF.cells none 0).toArray 37 (0,0))::(K++M)) (tag KK):=by
 have hrN:CanRead wb ((b48,Obj.cells (bhF.cells none 0++itF.cells none 0).toArray 37 (0,0))::(K++M)) ⟨b48,0,none⟩ (bhF.cells none 0++itF.cells none 0):=CanRead.of_own (e:=37) (b:=b48) (cs:=bhF.cells none 0++itF.cells none 0) (n:=14) (.head _) rfl rfl
 have key:∀ (b cap:Nat) (cs xs:List Value) (K0:Own),wb.heap.size≤b→l.length+2≤cap→cap≤maxLen→cs.length=cap * 7→(∀ p∈K0,p∈K)→OwK l K0 xs→cs.take ((l.length+2) * 7)=xs++(bhF.cells none 0++itF.cells none 0)→KK (.slice (some ⟨b,0,none⟩) (l.length+2) cap) wb ((b,Obj.cells cs.toArray 37 (0,0))::(b48,Obj.cells (bhF.cells none 0++itF.cells none 0).toArray 37 (0,0))::(K++M)):=fun b cap cs xs K0 h1 h2 h3 h4 h5 h6 h7=>by
  have h8:cap≤9223372036854775807:=by simp only[maxLen] at h3; exact h3
  refine hK b cap cs K0 h1 h2 h5 ((OwS_iff _ _ _ _).2 (.inr ⟨b,cap,cs,_,K0,rfl,rfl,un h2,Nat.le_refl _,.inl rfl,h8,h4,un h7,h6.two⟩)) ((OwS_iff _ _ _ _).2 (.inr ⟨b,cap,cs,xs,K0,rfl,rfl,by omega,Nat.le_refl _,.inl rfl,h8,h4,?_,h6⟩))
  have h9:=congrArg (·.take (l.length * 7)) h7
  simp only[List.take_take] at h9
  rw[Nat.min_eq_left (by omega),← h6.len,List.take_left,h6.len] at h9
  exact h9
 rcases (OwS_iff _ _ _ _).1 hO with ⟨rfl,rfl,_,rfl⟩|⟨b,cap,cs,xs,K0,rfl,rfl,h2,h3,h4,h5,h6,h7,h8⟩
 ·refine appendI un_24 infoFldC rfl (n:=0) (m:=2) (xs:=[]) (news:=bhF.cells none 0++itF.cells none 0) (M:=(b48,Obj.cells (bhF.cells none 0++itF.cells none 0).toArray 37 (0,0))::([]++M)) ⟨rfl,.inl ⟨rfl,rfl,rfl⟩⟩ rfl hrN (by simp[Fld.cells,Value.oneCell']) (by simp[maxLen]) (by omega) (fun v' L' h _=>?_)
  obtain ⟨_,⟨_,q2,_⟩|⟨b,cap,cs,q1,q2,q3,q4,q5,q6,q7⟩⟩:=h
  ·omega
  ·rw[q1,q2]
   exact key b cap cs [] [] q3 (un q4) q5 q6 (by simp) .nil (un q7)
 ·obtain ⟨inf,hinf,i1,i2,i3⟩:∃ inf,Tryz.prog.info? 37=some inf∧inf.zero=some (.agg #[str [],.bool false,i64 0,i64 0,i64 0,i64 0,.slice none 0 0])∧inf.size=7∧inf.bytes=80:=by
   have hi:=infoFldC
   cases hh:Tryz.prog.info? 37 with
   | none=>rw[hh] at hi; cases hi
   | some inf=>rw[hh] at hi; simp at hi; exact ⟨inf,rfl,hi.1,hi.2.1,hi.2.2⟩
  intro w hw
  have hrX:CanRead wb ((b48,Obj.cells (bhF.cells none 0++itF.cells none 0).toArray 37 (0,0))::(((b,Obj.cells cs.toArray 37 (0,0))::K0)++M)) ⟨b,0,none⟩ xs:=CanRead.of_own (e:=37) (b:=b) (cs:=cs) (n:=l.length * 7) (.tail _ (.head _)) (by rw[h8.len]) h7
  have hg:l.length < l.length+2:=by omega
  have hby:(l.length+2) * inf.bytes≤140737488355328:=by rw[i3]; omega
  have hrun:=run_append_grow (P:=Tryz.prog) w 24 ty 37 inf _ un_24 hinf i1 ⟨b,0,none⟩ l.length l.length xs (by rw[h8.len,i2]) (hrX w hw) ⟨b48,0,none⟩ 2 2 (bhF.cells none 0++itF.cells none 0) (by rw[i2]; rfl) (hrN w hw) hg (by omega) (growslice_fits hg hby)
  have hge:=grownCap_ge w (l.length+2) l.length 37
  have hle:=grownCap_le_maxLen w (l.length+2) l.length 37 (by simp only[maxLen]; omega)
  refine ⟨_,_,wb,_,hrun,hw.drewn.new _,?_⟩
  have h9:=key w.heap.size (grownCap w (l.length+2) l.length 37) (xs++(bhF.cells none 0++itF.cells none 0)++(Builtin.zeroCells (Value.agg #[str [],.bool false,i64 0,i64 0,i64 0,i64 0,.slice none 0 0]).cells (grownCap w (l.length+2) l.length 37 - (l.length+2))).toList) xs K0 hw.size hge hle (by
   simp only[qA,Array.length_toList,zeroCells_length]
   rw[h8.len]
   show l.length * 7+14+_ * 7=_
   omega) (fun p hp=>.tail _ hp) h8 (by
   rw[Nat.add_mul,← h8.len]
   exact List.take_left (l₁:=xs++(bhF.cells none 0++itF.cells none 0)) |> fun h=>by rw[qA] at h; exact h)
  have e2:(xs++(bhF.cells none 0++itF.cells none 0)++(Builtin.zeroCells (Value.agg #[str [],.bool false,i64 0,i64 0,i64 0,i64 0,.slice none 0 0]).cells (grownCap w (l.length+2) l.length 37 - (l.length+2))).toList).toArray=xs.toArray++(bhF.cells none 0++itF.cells none 0).toArray++Builtin.zeroCells (Value.agg #[str [],.bool false,i64 0,i64 0,i64 0,i64 0,.slice none 0 0]).cells (grownCap w (l.length+2) l.length 37 - (l.length+2)):=by simp
  rw[e2] at h9
  exact h9
theorem bin_func_nilK {K:Value→Prop} {x:Operand} (g:FuncId) (xs cs:Array Value):PureX Tryz.prog (binV .eql 57 x (.const .nilFunc) (.func (.func g) xs cs) .nilFunc) (tag K)=K (.bool false):=px (fun w=>by kernel_rfl) K
theorem SchAt.weakenK {w:World} {lo lo':Nat} {a:Option Addr} {l:List Fld} {c:Nat} {na:Option Addr} {nt:List NoteT} {nc:Nat} (h:SchAt w lo a l c na nt nc) (hle:lo≤lo'):SchAt w lo' a l c na nt nc :=
 ⟨h.hr.weaken hle,h.hc,h.hc2,by
  rcases h.hn with h|⟨b,off,h1,h2,h3⟩
  ·exact .inl h
  ·exact .inr ⟨b,off,h1,Nat.lt_of_lt_of_le h2 hle,h3⟩,h.hnc,h.hnc2⟩
theorem nd_okK:∀ (d:Nat) (path:List Nat) (ind:Bool) (l:List Fld),okT l=true→∀ x∈nd d path ind l,okS x.f=true
 | 0,_,_,_,_,x,h=>by simp[nd] at h
 | d+1,path,ind,l,hl,x,h=>by
  rw[nd] at h
  obtain ⟨⟨f,i⟩,hp,hx⟩:=List.mem_flatMap.1 h
  have hf:l[i]?=some f:=by simpa using List.mk_mem_zipIdx_iff_getElem?.1 hp
  have h1:=okT_get hl hf
  rcases List.mem_cons.1 hx with rfl|hx
  ·exact h1
  ·exact nd_okK d _ _ _ ((okS_iff f).1 h1).2 x hx
structure KkR (w0:World) (MM:Own) (b3 b7 b12:Nat) (vf vb:Value) (wb:World) (e:Env) (ds:List Deferred) (L:Own):Prop where
 hw:wb=w0
 o:∃ (d lr:Nat) (x:Loop),w0.heap.size≤d∧w0.heap.size≤lr∧d∉MM.map (·.1)∧ds=[{ target:=.collected d,args:=#[] }]∧L=(lr,Obj.loop x)::(d,Obj.deferred (some []))::MM
 h3:e 3=.pointer (some ⟨b3,0,none⟩)
 h7:e 7=.pointer (some ⟨b7,0,none⟩)
 h9:e 9=vf
 h10:e 10=vb
 h12:e 12=.pointer (some ⟨b12,0,none⟩)
theorem PartS.baseK {w w':World} {lo:Nat} {v:Value} {M:Own} {l:List Fld} (h:PartS w lo v M l) (hk:∀ k,k < lo→w.heap[k]?=w'.heap[k]?):PartS w' lo v M l:=by
 obtain ⟨a,c,h1,h2,h3⟩:=h
 exact ⟨a,c,h1,h2,fun w2 q1 q2 q3=>h3 w2 (fun k hk'=>by rw[q1 k hk',hk k hk']) q2 q3⟩
theorem parts_few (f:Fld):(partsP f).length≤1048576∧wideL 1048576 (partsP f)=true:=by
 unfold partsP
 split
 ·rename_i h
  obtain ⟨h1,h2⟩:=may_small h.1
  have h3:=wideL_mono (n:=32) (m:=1048576) (by omega) _ (okT_wide _ h1)
  split
  ·refine ⟨by rw[List.length_cons]; omega,?_⟩
   rw[wideL,h3,endsF,wideF,wideL]
   simp
  ·exact ⟨by omega,h3⟩
 ·exact ⟨by simp,by rw[wideL]⟩
theorem OwS.tyAt {l:List Fld} {b cap i:Nat} {cs:List Value} {K0:Own} {f:Fld} (h:OwS l ((b,Obj.cells cs.toArray 37 (0,0))::K0) (some ⟨b,0,none⟩) cap) (hf:l[i]?=some f) :
 ∃ (KF:Own) (fa:Option Addr) (fc:Nat),(∀ p∈KF,p∈K0)∧OwF f KF fa fc∧(cs.drop (i * 7+2)).take 5=f.tcells fa fc:=by
 rcases (OwS_iff _ _ _ _).1 h with ⟨_,h1,_⟩|⟨b',cap',cs',xs,K',h1,h2,h3,h4,h5,h6,h7,h8,h9⟩
 ·cases h1
 injection h2 with q1 q2
 injection q1 with q3 q4
 injection q4 with q5
 have q6:cs=cs':=by injection q5
 subst q6; subst q2
 obtain ⟨KA,KF,KB,fa,fc,ca,cb,hK,hx,k1,k2,k3⟩:=h9.split i hf
 have hil:=(List.getElem?_eq_some_iff.1 hf).1
 refine ⟨KF,fa,fc,fun p hp=>by rw[hK]; simp[hp],k2,?_⟩
 have hca:ca.length=i * 7:=by rw[k1.len,List.length_take]; omega
 have e1:(cs.drop (i * 7+2)).take 5=((cs.take (l.length * 7)).drop (i * 7+2)).take 5:=by
  rw[List.drop_take,List.take_take,Nat.min_eq_left (by omega)]
 rw[e1,h8,hx,← List.drop_drop,← hca,List.drop_left]
 rfl
structure KkG (w0:World) (GG:Own) (ds0:List Deferred) (b3 b7 b12:Nat) (vf vb vy vs:Value) (r:Int×List Nat×Int) (n:Nat) (D:Nat→Bool) (e:Env) (ds:List Deferred) (L:Own):Prop where
 hds:ds=ds0
 h3:e 3=.pointer (some ⟨b3,0,none⟩)
 h7:e 7=.pointer (some ⟨b7,0,none⟩)
 h9:e 9=vf
 h10:e 10=vb
 h12:e 12=.pointer (some ⟨b12,0,none⟩)
 o:∃ X:Own,L=X++GG∧(∀ p∈X,w0.heap.size≤p.1)∧(D 7=true→∃ pa pc,e 92=.agg #[i64 r.1,.slice pa n pc,i64 r.2.2]∧RowIn X 3 (.slice pa n pc) n (ints r.2.1))
 d0:D 0=true→e 85=vf
 d1:D 1=true→e 86=vb
 d2:D 2=true→e 87=.bool true
 d3:D 3=true→e 88=.bool false
 d4:D 4=true→e 89=.bool false
 d5:D 5=true→e 90=vy
 d6:D 6=true→e 91=vs
 d8:D 8=true→e 93=.bool true
 d9:D 9=true→e 94=.bool false
 d10:D 10=true→e 95=.bool false
structure KkL (w0:World) (GG:Own) (ds0:List Deferred) (b3 b7:Nat) (vf vb vt:Value) (n i:Nat) (wb:World) (e:Env) (ds:List Deferred) (L:Own):Prop where
 hw:wb=w0
 hds:ds=ds0
 o:GG=L
 hi:i≤n
 h3:e 3=.pointer (some ⟨b3,0,none⟩)
 h7:e 7=.pointer (some ⟨b7,0,none⟩)
 h9:e 9=vf
 h10:e 10=vb
 h98:e 98=i64 n
 h99:e 99=i64 i
structure KkE (b3 b7 b11 b12:Nat) (vf vb:Value) (e:Env):Prop where
 h3:e 3=.pointer (some ⟨b3,0,none⟩)
 h7:e 7=.pointer (some ⟨b7,0,none⟩)
 h9:e 9=vf
 h10:e 10=vb
 h11:e 11=.pointer (some ⟨b11,0,none⟩)
 h12:e 12=.pointer (some ⟨b12,0,none⟩)
structure KkP (w0:World) (b3 b7 b11 b12:Nat) (vf vb:Value) (r1 r3:Int) (v:Value) (n:Nat) (MR:Own) (i:Nat) (wb:World) (e:Env) (ds:List Deferred) (L:Own):Prop where
 hw:wb=w0
 hds:ds=[]
 o:∃ R,L=R++(oFt b11 r1 v r3::MR)∧RowP w0 3 1 R v n
 hi:i≤n
 he:KkE b3 b7 b11 b12 vf vb e
 h69:e 69=i64 n
 h70:e 70=i64 i
theorem kindKeeps_walk (w:World) (hs:SaysAt w) (hl:LibAt w) (lo:Nat) (hlo:lo≤w.heap.size) (t o:List UInt8) (ht:t.length≤9223372036854775807) (ho:o.length≤9223372036854775807) (a:Option Addr) (l:List Fld) (c:Nat) (na:Option Addr) (nt:List NoteT) (nc:Nat) (hsc:SchAt w lo a l c na nt nc) (hnt:nt.length≤8796093022208) :
 Calls Tryz.prog 4 #[schV a l c na nt nc,str t,str o] w (Rets w (Is (.bool true))):=by
 refine enterM (args:=[schV a l c na nt nc,str t,str o]) Tryz.func4 rfl Tryz.ntmps4 (congrArg Array.toList Tryz.results4) (by kernel_rfl) (by simp) (Sy.refl w) ?_
 simp (disch:=omega) only[push_cast,qE,schV]
 refine newI (fun b3 hb3 hnb3=>?_)
 refine sp ?_
 have g0:∀ p∈[oSm b3 a l.length c na nt.length nc],w.heap.size≤p.1:=fun p hp=>by rw[List.mem_singleton.1 hp]; exact hb3
 have scS:=fun w' (L':Own) (hL':∀ p∈L',w.heap.size≤p.1) hw'=>hsc.sy hlo (w':=w') (M:=L') hw' (fun p hp=>Nat.le_trans hlo (hL' p hp))
 have hl63:=Nat.le_trans hsc.hc hsc.hc2
 refine callV en_5 (cIs (fun w' hw'=>awake_walk w' (hs.mono hw' g0)) ?_)
 simp (disch:=omega) only[push_cast,qE,Bool.not_true]
 refine callV en_12 (cIs (fun w' hw'=>keepsTexts_walk w' (hs.mono hw' g0) (hl.mono hw' g0) t o ht ho) ?_)
 simp (disch:=omega) only[push_cast,qE,Bool.not_true]
 refine lAg Shp.eq mem0 rfl rfl ?_
 refine sp ?_
 refine callV en_13 (cIs (fun w' hw'=>keepsFields_walk w' (hs.mono hw' g0) (hl.mono hw' g0) lo (Nat.le_trans hlo hw'.size) t ht a l c na nt nc (scS w' _ g0 hw')) ?_)
 simp (disch:=omega) only[push_cast,qE,Bool.not_true]
 rw[Vc]
 refine sp ?_
 refine lOn Shp.eq mem0 rfl ?_
 refine sp ?_
 refine callV en_14 (cIs (fun w' hw'=>smallN_walk w' lo (Nat.le_trans hlo hw'.size) l a c (scS w' _ g0 hw').hr hl63) ?_)
 rcases hd:decide (0≤leftL l 1048576) with _|_
 ·simp (disch:=omega) only[push_cast,qE,Bool.not_false]
  rw[Vc]
  refine sp ?_
  exact finIs g0 rfl
 obtain ⟨hlen,hwd⟩:=leftL_ok l 1048576 1048576 (of_decide_eq_true hd) (by omega)
 have hlen2:l.length≤1048576:=by have:=of_decide_eq_true hd; omega
 simp (disch:=omega) only[push_cast,qE,Bool.not_true]
 rw[Vc]
 refine sp ?_
 refine lAg Shp.eq mem0 rfl rfl ?_
 refine sp ?_
 refine callV en_15 (cNw (fun w' hw'=>copySchema_walk w' lo (Nat.le_trans hlo hw'.size) a l c na nt nc (scS w' _ g0 hw') hlen2 hwd hnt) (fun v M1 hM1 hn1 hS1=>?_))
 (refine xe3 (hS1) (fun a1 nb K1 hz=>?_); have ez:=hz.1; subst ez; have ez:=hz.2.1; subst ez; have hO1:=hz.2.2; clear hz)
 refine sp ?_
 refine newI (fun b7 hb7 hnb7=>?_)
 refine sp ?_
 refine sXa 0 rfl Siz.eq rfl rfl ?_
 refine sp ?_
 refine lOn Shp.eq mem0 rfl ?_
 refine sp ?_
 refine lOn Shp.eq mem0 rfl ?_
 refine sp ?_
 refine bs_24_2 (newI fun b48 hb48 hnb48=>?_)
 refine sp ?_
 refine valX_weak (L':=(b48,Obj.cells (bhF.cells none 0++itF.cells none 0).toArray 37 (0,0))::(K1++(oSm b7 a1 l.length l.length (some ⟨nb,0,none⟩) nt.length nt.length::(nb,Obj.cells (notesC nt).toArray 90 (0,0))::[oSm b3 a l.length c na nt.length nc]))) (fun w hw=>hw.perm (?_:List.Perm ((b48,Obj.cells (bhF.cells none 0++itF.cells none 0).toArray 37 (0,0))::oSm b7 a1 l.length l.length (some ⟨nb,0,none⟩) nt.length nt.length::(((nb,Obj.cells (notesC nt).toArray 90 (0,0))::K1)++[oSm b3 a l.length c na nt.length nc])) _)) (appendTwo hO1 hlen2 (fun bn cap cs K0 hbn hcap hK0 hOF hOt=>?_))
 ·exact pC
 refine sp ?_
 refine storeX_weak (L':=oSm b7 a1 l.length l.length (some ⟨nb,0,none⟩) nt.length nt.length::((bn,Obj.cells cs.toArray 37 (0,0))::(b48,Obj.cells (bhF.cells none 0++itF.cells none 0).toArray 37 (0,0))::(K1++((nb,Obj.cells (notesC nt).toArray 90 (0,0))::[oSm b3 a l.length c na nt.length nc])))) (fun w hw=>hw.perm (pC)) (sXa 0 rfl Siz.eq rfl rfl ?_)
 refine sp ?_
 obtain ⟨SS,hSS⟩:∃ SS:Own,SS=(bn,Obj.cells cs.toArray 37 (0,0))::(b48,Obj.cells (bhF.cells none 0++itF.cells none 0).toArray 37 (0,0))::(K1++((nb,Obj.cells (notesC nt).toArray 90 (0,0))::[oSm b3 a l.length c na nt.length nc])):=⟨_,rfl⟩
 have gS:∀ p∈SS,w.heap.size≤p.1:=fun p hp=>by
  rw[hSS] at hp
  simp only[qM,List.mem_append,qI,or_false] at hp
  rcases hp with rfl|rfl|hp|rfl|rfl
  ·exact hbn
  ·exact hb48
  ·exact hM1 p (.tail _ hp)
  ·exact hM1 _ (.head _)
  ·exact hb3
 have mBF:∀ p∈(bn,Obj.cells cs.toArray 37 (0,0))::K0,p∈SS:=fun p hp=>by
  rw[hSS]
  rcases List.mem_cons.1 hp with rfl|hp
  ·exact .head _
  ·exact .tail _ (.tail _ (qL _ (hK0 p hp)))
 have mNB:(nb,Obj.cells (notesC nt).toArray 90 (0,0))∈SS:=by rw[hSS]; simp
 have mB3:oSm b3 a l.length c na nt.length nc∈SS:=by rw[hSS]; simp
 have hnl:∀ (i:Nat) (n:NoteT),nt[i]?=some n→n.1.length≤9223372036854775807∧n.2.length≤9223372036854775807:=fun i n hi=>by
  rcases hsc.hn with h0|⟨ns,off,_,_,hnr⟩
  ·rw[h0] at hi; simp at hi
  ·exact ⟨(hnr i n hi).1,(hnr i n hi).2.1⟩
 have schT:∀ (w':World) (L':Own),Sy w L' w'→(∀ p∈SS,p∈L')→SchAt w' w'.heap.size (some ⟨bn,0,none⟩) l cap (some ⟨nb,0,none⟩) nt nt.length:=fun w' L' hw' h=>by
  refine ⟨hOt.rd hw' (fun p hp=>h p (mBF p hp)),hOt.le.1,hOt.le.2,.inr ⟨nb,0,rfl,hw'.lt (h _ mNB),fun i n hi=>⟨(hnl i n hi).1,(hnl i n hi).2,⟨_,_,_,hw'.own _ _ (h _ mNB),?_⟩⟩⟩,Nat.le_refl _,by omega⟩
  rw[Nat.zero_add]
  exact notesC_get hi
 have hlF:(l++[bhF,itF]).length=l.length+2:=by simp
 have hwF:wideL 1048576 (l++[bhF,itF])=true:=by
  rw[wideL_append,hwd,wideL,wideL,wideL,wideF,wideF,wideL]; simp
 have hCF:∀ (w':World) (L':Own),Sy w L' w'→(∀ p∈SS,p∈L')→Calls Tryz.prog 16 #[.slice (some ⟨bn,0,none⟩) (l.length+2) cap] w' (RetsN w' (fun v M=>∃ a',v=.slice a' (l.length+2) (l.length+2)∧OwS (l++[bhF,itF]) M a' (l.length+2))):=fun w' L' hw' h=>by
  have h9:=copyFieldsW_walk w' w'.heap.size (l++[bhF,itF]) (some ⟨bn,0,none⟩) cap (Nat.le_refl _) (hOF.rd hw' (fun p hp=>h p (mBF p hp))) hOF.le.1 hOF.le.2 (by rw[hlF]; omega) hwF
  rw[hlF] at h9
  exact h9
 obtain ⟨L7,hL7⟩:∃ L:Own,L=oSm b7 (some ⟨bn,0,none⟩) l.length cap (some ⟨nb,0,none⟩) nt.length nt.length::SS:=⟨_,rfl⟩
 have g7:∀ p∈L7,w.heap.size≤p.1:=(by rw[hL7]; exact (nC hb7 gS))
 have s7:∀ p∈SS,p∈L7:=fun p hp=>by rw[hL7]; exact .tail _ hp
 have m7:oSm b7 (some ⟨bn,0,none⟩) l.length cap (some ⟨nb,0,none⟩) nt.length nt.length∈L7:=by rw[hL7]; exact .head _
 refine callV en_16 (callX_weak (L':=L7) (fun w hw=>by rw[hL7,hSS]; exact hw) (cNw (fun w' hw'=>hCF w' _ hw' s7) (fun v M9 hM9 hn9 hS9=>?_)))
 (refine Exists.elim (hS9) (fun a9 hz=>?_); have ez:=hz.1; subst ez; have hO9:=hz.2; clear hz)
 refine sp ?_
 refine lAg Shp.eq (qR _ m7) rfl rfl ?_
 refine sp ?_
 obtain ⟨r,hr⟩:∃ r,r=checkP l nt:=⟨_,rfl⟩
 have hCK:∀ (w':World) (L':Own),Sy w L' w'→(∀ p∈SS,p∈L')→(∀ p∈L',w.heap.size≤p.1)→Calls Tryz.prog 17 #[.agg #[.slice (some ⟨bn,0,none⟩) l.length cap,.slice (some ⟨nb,0,none⟩) nt.length nt.length]] w' (RetsN w' (fun v M=>wrongFault v M r)):=fun w' L' hw' h g=>by
  have h2:=schT w' L' hw' h
  rw[hr]
  exact check_walk w' (hs.mono hw' g) w'.heap.size (Nat.le_refl _) l (some ⟨bn,0,none⟩) cap h2.hr h2.hc h2.hc2 nt (some ⟨nb,0,none⟩) nt.length h2.hn h2.hnc h2.hnc2
 obtain ⟨L9,hL9⟩:∃ L:Own,L=M9++L7:=⟨_,rfl⟩
 have g9:∀ p∈L9,w.heap.size≤p.1:=(by rw[hL9]; exact (nA hM9 g7))
 have s9:∀ p∈L7,p∈L9:=fun p hp=>by rw[hL9]; exact qR _ hp
 refine callV en_17 (callX_weak (L':=L9) (fun w hw=>by rw[hL9]; exact hw) (cNw (fun w' hw'=>hCK w' _ hw' (fun p hp=>s9 p (s7 p hp)) g9) (fun v M10 hM10 hn10 hS10=>?_)))
 (refine xe2 (hS10) (fun pa pc hz=>?_); have ez:=hz.1; subst ez; have hrow10:=hz.2.1; clear hz)
 refine sp ?_
 refine newI (fun b11 hb11 hnb11=>?_)
 refine sp ?_
 refine sXa 0 rfl Siz.eq rfl rfl ?_
 refine sp ?_
 obtain ⟨L11,hL11⟩:∃ L:Own,L=oFt b11 r.1 (.slice pa r.2.1.length pc) r.2.2::(M10++L9):=⟨_,rfl⟩
 have g11:∀ p∈L11,w.heap.size≤p.1:=(by rw[hL11]; exact (nC hb11 (nA hM10 g9)))
 have s11:∀ p∈L9,p∈L11:=fun p hp=>by rw[hL11]; exact .tail _ (qR _ hp)
 have sS11:∀ p∈SS,p∈L11:=fun p hp=>s11 p (s9 p (s7 p hp))
 refine lAg Shp.eq (by rw[hL11] at s11; exact s11 _ (s9 _ m7)) rfl rfl ?_
 refine sp ?_
 refine callV en_18 (callX_weak (L':=L11) (fun w hw=>by rw[hL11]; exact hw) (cIs (fun w' hw'=>printG_walk w' (hs.mono hw' g11) w'.heap.size (Nat.le_refl _) (some ⟨bn,0,none⟩) l cap (some ⟨nb,0,none⟩) nt nt.length (schT w' _ hw' sS11) (fun hm=>print_may hm)) ?_))
 refine sp ?_
 refine lAg Shp.eq (s11 _ (s9 _ m7)) rfl rfl ?_
 refine sp ?_
 refine callV en_19 (cIs (fun w' hw'=>count_walk w' (hs.mono hw' g11) w'.heap.size (Nat.le_refl _) (some ⟨bn,0,none⟩) l cap (some ⟨nb,0,none⟩) nt nt.length (schT w' _ hw' sS11)) ?_)
 refine sp ?_
 refine lAg Shp.eq (s11 _ (s9 _ m7)) rfl rfl ?_
 refine sp ?_
 refine lAg Shp.eq (sS11 _ mB3) rfl rfl ?_
 refine sp ?_
 refine callV en_20 (cIs (fun w' hw'=>alikeSchemas_walk w' (hs.mono hw' g11) w'.heap.size (Nat.le_refl _) (some ⟨bn,0,none⟩) l cap (some ⟨nb,0,none⟩) nt nt.length (schT w' _ hw' sS11) a l c na nt nc ((scS w' _ g11 hw').weakenK (Nat.le_trans hlo hw'.size))) ?_)
 refine sp ?_
 refine lAg Shp.eq (s11 _ (s9 _ m7)) rfl rfl ?_
 refine sp ?_
 refine callV en_17 (cNw (fun w' hw'=>hCK w' _ hw' sS11 g11) (fun v M14 hM14 hn14 hS14=>?_))
 (refine xe2 (hS14) (fun pa4 pc4 hz=>?_); have ez:=hz.1; subst ez; have hrow14:=hz.2.1; clear hz)
 refine sp ?_
 refine newI (fun b12 hb12 hnb12=>?_)
 refine sp ?_
 refine sXa 0 rfl Siz.eq rfl rfl ?_
 refine sp ?_
 obtain ⟨L14,hL14⟩:∃ L:Own,L=oFt b12 r.1 (.slice pa4 r.2.1.length pc4) r.2.2::(M14++L11):=⟨_,rfl⟩
 obtain ⟨R0,M0,hp0,hR0⟩:=RowP.whole hM10 hrow10
 obtain ⟨MR,hMR⟩:∃ L:Own,L=oFt b12 r.1 (.slice pa4 r.2.1.length pc4) r.2.2::(M14++(M0++L9)):=⟨_,rfl⟩
 have hpm:L14.Perm (R0++(oFt b11 r.1 (.slice pa r.2.1.length pc) r.2.2::MR)):=by
  rw[hL14,hL11,hMR]
  exact permC fun f=>by simp only[wt_append,wt_cons,wt_nil,wt_perm hp0]; omega
 have g14:∀ p∈L14,w.heap.size≤p.1:=(by rw[hL14]; exact (nC hb12 (nA hM14 g11)))
 have gMR:∀ p∈MR,w.heap.size≤p.1:=fun p hp=>g14 p (hpm.mem_iff.2 (qR _ (.tail _ hp)))
 have sMR9:∀ p∈L9,p∈MR:=fun p hp=>by rw[hMR]; exact .tail _ (qR _ (qR _ hp))
 have sMR14:∀ p∈M14,p∈MR:=fun p hp=>by rw[hMR]; exact .tail _ (qL _ hp)
 have m12:oFt b12 r.1 (.slice pa4 r.2.1.length pc4) r.2.2∈MR:=by rw[hMR]; exact .head _
 have hn63:r.2.1.length≤9223372036854775807:=by
  obtain ⟨_,⟨_,h2⟩|⟨_,cap,_,h1,_,h3,h4,_⟩⟩:=hrow10
  ·omega
  ·simp only[maxLen] at h4; omega
 obtain ⟨n,hn0⟩:∃ n,n=r.2.1.length:=⟨_,rfl⟩
 rw[← hn0] at hR0 hpm hn63 m12
 refine lOn Shp.eq (by rw[hL11]; exact .tail _ (qR _ (.head _))) rfl ?_
 rw[← hn0]
 refine sp ?_
 rw[Vb]
 refine sp ?_
 refine loopW (G:=Nat) (KkP w b3 b7 b11 b12 (.slice (some ⟨bn,0,none⟩) (l.length+2) cap) (.slice a9 (l.length+2) (l.length+2)) r.1 r.2.2 (.slice pa n pc) n MR) (fun i=>n - i) 0 (R0++(oFt b11 r.1 (.slice pa n pc) r.2.2::MR)) (fun w hw=>hw.perm (by rw[hL14,← hn0] at hpm; exact hpm)) (by kernel_rfl) ⟨rfl,rfl,⟨R0,rfl,hR0⟩,by omega,⟨rfl,rfl,rfl,rfl,rfl,rfl⟩,rfl,rfl⟩ ?_
 clear hpm hR0 hp0
 rintro j wb e ds L ⟨rfl,rfl,⟨R,rfl,hR⟩,hj,⟨h3,h7,h9,h10,h11,h12⟩,h69,h70⟩
 simp (disch:=omega) only[push_cast,qE,h3,h7,h9,h10,h11,h12,h69,h70]
 rw[Vc]
 simp (disch:=omega) only[push_cast,qE,h3,h7,h9,h10,h11,h12,h69,h70]
 refine cdD (fun hlt=>?_) (fun hge=>?_)
 ·obtain ⟨-,q2,-⟩|⟨bb,ob,cb,cs2,q1,rfl,q3,q4,q5,q6⟩:=hR
  ·omega
  injection q1 with q7 q8 q9
  subst q7 q9
  simp (disch:=omega) only[push_cast,qE,h3,h7,h9,h10,h11,h12,h69,h70]
  rw[Vb]
  simp (disch:=omega) only[push_cast,qE,h3,h7,h9,h10,h11,h12,h69,h70]
  refine lOn Shp.eq (.tail _ (.head _)) rfl ?_
  simp (disch:=omega) only[push_cast,qE,h3,h7,h9,h10,h11,h12,h69,h70]
  refine stX 0 rfl Siz.eq rfl rfl (by simp[Value.oneCell']) (by omega) ?_
  simp (disch:=omega) only[push_cast,qE,h3,h7,h9,h10,h11,h12,h69,h70]
  refine ⟨j+1,_,fun w hw=>hw,⟨rfl,rfl,⟨[(bb,Obj.cells _ 3 (0,0))],rfl,.inr ⟨bb,ob,_,_,rfl,rfl,q3,q4,q5,.inr ?_⟩⟩,by omega,⟨h3,h7,h9,h10,h11,h12⟩,h69,uu⟩,by omega⟩
  simp only[qA,List.length_take,List.length_cons,List.length_drop,List.length_nil]; omega
 have gX:wb.heap.size≤b11:=hb11
 obtain ⟨LP,hLP⟩:∃ L:Own,L=R++(oFt b11 r.1 (.slice pa n pc) r.2.2::MR):=⟨_,rfl⟩
 have gP:∀ p∈LP,wb.heap.size≤p.1:=(by rw[hLP]; exact (nA hR.new (nC gX gMR)))
 have sP:∀ p∈MR,p∈LP:=fun p hp=>by rw[hLP]; exact qR _ (.tail _ hp)
 have sPS:∀ p∈SS,p∈LP:=fun p hp=>sP p (sMR9 p (s9 p (s7 p hp)))
 simp (disch:=omega) only[push_cast,qE,h3,h7,h9,h10,h11,h12,h69,h70]
 refine lAg Shp.eq (by rw[hLP] at sP; exact sP _ (sMR9 _ (s9 _ m7))) rfl rfl ?_
 simp (disch:=omega) only[push_cast,qE,h3,h7,h9,h10,h11,h12,h69,h70]
 refine callV en_21 (callX_weak (L':=LP) (fun w hw=>by rw[hLP]; exact hw) (cNw (fun w' hw'=>walk_walk w' (hs.mono hw' gP) w'.heap.size (Nat.le_refl _) (some ⟨bn,0,none⟩) l cap (some ⟨nb,0,none⟩) nt nt.length (schT w' _ hw' sPS)) (fun v M20 hM20 hn20 hS20=>?_)))
 (refine xe3 (hS20) (fun bk ka kc hz=>?_); have ez:=hz.1; subst ez; have hbk:=hz.2.1; have hkc:=hz.2.2.1; have hkc2:=hz.2.2.2.1; have hrx:=hz.2.2.2.2; clear hz)
 simp (disch:=omega) only[push_cast,qE,h3,h7,h9,h10,h11,h12,h69,h70]
 rw[bin_func_nilK]
 simp (disch:=omega) only[push_cast,qE,h3,h7,h9,h10,h11,h12,h69,h70]
 rw[Vc]
 simp (disch:=omega) only[push_cast,qE,h3,h7,h9,h10,h11,h12,h69,h70]
 obtain ⟨MM,hMM⟩:∃ L:Own,L=M20++LP:=⟨_,rfl⟩
 have gM:∀ p∈MM,wb.heap.size≤p.1:=(by rw[hMM]; exact (nA hM20 gP))
 have sM20:∀ p∈M20,p∈MM:=fun p hp=>by rw[hMM]; exact qL _ hp
 have sMP:∀ p∈MR,p∈MM:=fun p hp=>by rw[hMM]; exact qR _ (sP p hp)
 have hokn:∀ x∈nd 64 [] false (walkL l nt),okS x.f=true:=by
  refine nd_okK 64 [] false _ ?_
  unfold walkL
  split
  ·rename_i hm; exact (small_may hm).1
  ·rw[okT]
 refine cutV (KkR wb MM b3 b7 b12 (.slice (some ⟨bn,0,none⟩) (l.length+2) cap) (.slice a9 (l.length+2) (l.length+2))) ?_ ?_
 ·rw[Vb]
  simp (disch:=omega) only[push_cast,qE,h3,h7,h9,h10,h11,h12]
  refine forgetS (fun e=>e 3=.pointer (some ⟨b3,0,none⟩)∧e 7=.pointer (some ⟨b7,0,none⟩)∧e 9=.slice (some ⟨bn,0,none⟩) (l.length+2) cap∧e 10=.slice a9 (l.length+2) (l.length+2)∧e 12=.pointer (some ⟨b12,0,none⟩)∧e 82=.func (.func 61) #[] #[.pointer (some ⟨bk,0,none⟩)]) ⟨h3,h7,h9,h10,h12,by simp[upd]⟩ ?_
  clear h3 h7 h9 h10 h11 h12 h69 h70
  rintro e ⟨h3,h7,h9,h10,h12,h82⟩
  refine rangeY rfl h82 en_61 (fun fn tm d lr rec hrec htm hdl hd hlr hdn hlrn w' hw'=>?_)
  have hC:∀ x:Obj,∀ p∈[(lr,x),(d,Obj.deferred (some []))],wb.heap.size≤p.1:=fun x p hp=>by
   simp only[qM,qI,or_false] at hp
   rcases hp with rfl|rfl<;>assumption
  have hdMM:d∉MM.map (·.1):=by rw[hMM]; exact hdn
  rw[← hMM] at hw'
  refine (owalk1_walk wb MM (nd 64 [] false (walkL l nt))
   (fun k C=>C=[(lr,Obj.loop rec),(d,Obj.deferred (some []))])
   (fun k C=>∃ rec':Loop,rec'.state=.done∧rec'.pending=some (.exit 2)∧C=[(lr,Obj.loop rec'),(d,Obj.deferred (some []))])
   (.func (.yield lr) #[] #[]) rfl rfl ⟨(by intro g f c h; cases h),?_,?_,?_⟩ w' [(lr,Obj.loop rec),(d,Obj.deferred (some []))] MM bk (walkL l nt) ka kc
   hw' rfl gM (fun p hp=>hp) (sM20 _ hbk) (hrx.mono fun w hw p hp=>hw p (sM20 p hp)) hkc hkc2 hokn rfl).mono ?_
  ·rintro k C rfl p hp
   exact hC _ p hp
  ·rintro k C ⟨rec',_,_,rfl⟩ p hp
   exact hC _ p hp
  ·rintro k n2 hkn C K Mx bw wcap cs2 fa fc rfl hpc hcm hcl hct hF hpl hNM hM0 w2 hw2
   obtain ⟨TT,hTT⟩:∃ TT:Own,TT=((bw,Obj.cells cs2.toArray 3 (0,0))::K)++Mx:=⟨_,rfl⟩
   have hw3:Sy wb ((lr,Obj.loop rec)::(d,Obj.deferred (some []))::TT) w2:=by rw[hTT]; exact hw2
   subst hrec
   refine roundX (i:=0) rfl htm rfl (by simp) (by kernel_rfl) (by kernel_rfl) ?_ w2 hw3
   simp (disch:=omega) only[push_cast,qE,h3,h7,h9,h10,h12]
   refine ⟨0,rfl,?_⟩
   simp (disch:=omega) only[push_cast,qE,h3,h7,h9,h10,h12]
   rw[Vb]
   simp (disch:=omega) only[push_cast,qE,h3,h7,h9,h10,h12]
   refine ⟨0,_,rfl,fun w4 hw4=>?_⟩
   have h9:=(show Sy wb ((lr,_)::(d,Obj.deferred (some []))::(((bw,Obj.cells cs2.toArray 3 (0,0))::K)++Mx)) w4 by rw[hTT] at hw4; exact hw4).mid [_,_] _ (fun p hp=>hNM p (qL _ hp))
   refine .inr ⟨rfl,_,?_,h9⟩
   exact ⟨_,rfl,rfl,rfl⟩
  ·rintro e5 w5 ⟨rfl,⟨C',rfl,hw5⟩|⟨j,C',⟨rec',hr1,hr2,rfl⟩,hw5⟩⟩
   ·subst hrec
    refine ⟨wb,_,0,_,rfl,(by simp),hw5,?_⟩
    refine sp ?_
    exact ⟨rfl,⟨d,lr,_,hd,hlr,hdMM,rfl,rfl⟩,h3,h7,h9,h10,h12⟩
   ·refine ⟨wb,_,0,rec',rfl,(by rw[hr1]; simp),hw5,?_⟩
    rw[hr2]
    refine sp ?_
    exact ⟨rfl,⟨d,lr,_,hd,hlr,hdMM,rfl,rfl⟩,h3,h7,h9,h10,h12⟩
 rintro wb e ds L ⟨rfl,⟨d,lr,x,hd,hlr,hdMM,rfl,rfl⟩,h3,h7,h9,h10,h12⟩
 simp (disch:=omega) only[push_cast,qE,h3,h7,h9,h10,h12]
 obtain ⟨GG,hGG⟩:∃ L:Own,L=(d,Obj.deferred (some []))::MM:=⟨_,rfl⟩
 have gG:∀ p∈GG,wb.heap.size≤p.1:=(by rw[hGG]; exact (nC hd gM))
 have kR:∀ p∈MR,p∈GG:=fun p hp=>by rw[hGG]; exact .tail _ (sMP p hp)
 have k9:∀ p∈L9,p∈GG:=fun p hp=>kR p (sMR9 p hp)
 have kS:∀ p∈SS,p∈GG:=fun p hp=>k9 p (s9 p (s7 p hp))
 have kM9:∀ p∈M9,p∈GG:=fun p hp=>k9 p (by rw[hL9]; exact qL _ hp)
 have k14:∀ p∈M14,p∈GG:=fun p hp=>kR p (sMR14 p hp)
 have km7:=k9 _ (s9 _ m7)
 have km12:=kR _ m12
 have km3:=kS _ mB3
 have hEqF:∀ (w':World) (L':Own),Sy wb L' w'→(∀ p∈GG,p∈L')→Calls Tryz.prog 22 #[.slice (some ⟨bn,0,none⟩) (l.length+2) cap,.slice a9 (l.length+2) (l.length+2)] w' (Rets w' (Is (.bool true))):=fun w' L' hw' h=>by
  have h9:=eqFields_walk w' w'.heap.size w'.heap.size (l++[bhF,itF]) (some ⟨bn,0,none⟩) a9 cap (l.length+2) (Nat.le_refl _) (Nat.le_refl _) (hOF.rd hw' (fun p hp=>h p (kS p (mBF p hp)))) (hO9.rd hw' (fun p hp=>h p (kM9 p hp))) (by rw[hlF]; omega)
  rw[hlF] at h9
  exact h9
 have hCR:∀ (w':World) (L':Own),Sy wb L' w'→(∀ p∈L',wb.heap.size≤p.1)→Calls Tryz.prog 24 #[.agg #[.slice a l.length c,.slice na nt.length nc]] w' (RetsN w' (fun v M=>wrongFault v M r)):=fun w' L' hw' g=>by
  have h2:=scS w' L' g hw'
  rw[hr]
  exact checkR_walk w' lo (Nat.le_trans hlo hw'.size) l a c h2.hr h2.hc h2.hc2 nt na nc h2.hn h2.hnc h2.hnc2
 have hEq:∀ (w':World) (L':Own) (pax:Option Addr) (pcx:Nat) (X:Own),Sy wb L' w'→(∀ p∈GG,p∈L')→(∀ p∈X,p∈L')→RowIn X 3 (.slice pax n pcx) n (ints r.2.1)→Calls Tryz.prog 23 #[.agg #[i64 r.1,.slice pa4 n pc4,i64 r.2.2],.agg #[i64 r.1,.slice pax n pcx,i64 r.2.2]] w' (Rets w' (Is (.bool true))):=fun w' L' pax pcx X hw' h1 h2 h3=>by
  rw[hn0] at h3 hn63 ⊢
  exact eqFault_same w' r.1 r.2.2 r.2.1 pa4 pax pc4 pcx (intsAt_row hw' (fun p hp=>h1 p (k14 p hp)) hrow14) (intsAt_row hw' h2 h3) hn63
 refine SemT_weak (L':=GG) (fun w hw=>by rw[hGG]; exact hw.left (A:=[_]) (fun p hp=>by rw[List.mem_singleton.1 hp]; exact hlr)) ?_
 refine regionG [(0,[]),(1,[]),(2,[0,1]),(3,[2]),(4,[3]),(5,[4]),(6,[4]),(7,[6,4]),(8,[5,7,4]),(9,[8,4]),(10,[4,9])] (KkG wb GG [{ target:=.collected d,args:=#[] }] b3 b7 b12 (.slice (some ⟨bn,0,none⟩) (l.length+2) cap) (.slice a9 (l.length+2) (l.length+2)) (.agg #[i64 r.1,.slice pa4 n pc4,i64 r.2.2]) (.agg #[.slice a l.length c,.slice na nt.length nc]) r n) (by kernel_rfl) mixed (by kernel_rfl) ?_ ?_ ?_
 ·intro p hp D e ds L hD hdep hI
  obtain ⟨rfl,h3,h7,h9,h10,h12,⟨X,rfl,hX,hX7⟩,d0,d1,d2,d3,d4,d5,d6,d8,d9,d10⟩:=hI
  have gX:∀ p∈X++GG,wb.heap.size≤p.1:=(nA hX gG)
  have sX:∀ p∈GG,p∈X++GG:=fun p hp=>qR _ hp
  simp only[qM,qI,or_false] at hp
  rcases hp with rfl|rfl|rfl|rfl|rfl|rfl|rfl|rfl|rfl|rfl|rfl
  all_goals simp only[qM,qI,or_false,forall_eq_or_imp,forall_eq,false_implies,implies_true] at hD hdep
  ·simp (disch:=omega) only[push_cast,qE,h3,h7,h9,h10,h12]
   exact ⟨_,fun w hw=>hw,⟨rfl,(us h3),(us h7),(us h9),(us h10),(us h12),⟨X,rfl,hX,(ud hX7)⟩,(fun _=>by simp[upd]),(ud d1),(ud d2),(ud d3),(ud d4),(ud d5),(ud d6),(ud d8),(ud d9),(ud d10)⟩⟩
  ·simp (disch:=omega) only[push_cast,qE,h3,h7,h9,h10,h12]
   exact ⟨_,fun w hw=>hw,⟨rfl,(us h3),(us h7),(us h9),(us h10),(us h12),⟨X,rfl,hX,(ud hX7)⟩,(ud d0),(fun _=>by simp[upd]),(ud d2),(ud d3),(ud d4),(ud d5),(ud d6),(ud d8),(ud d9),(ud d10)⟩⟩
  ·have q0:=d0 hdep.1
   have q1:=d1 hdep.2
   simp (disch:=omega) only[push_cast,qE,q0,q1,h3,h7,h9,h10,h12]
   refine callV en_22 (cIs (fun w' hw'=>hEqF w' _ hw' sX) ?_)
   simp (disch:=omega) only[push_cast,qE,h3,h7,h9,h10,h12]
   exact ⟨_,fun w hw=>hw,⟨rfl,(us h3),(us h7),(us h9),(us h10),(us h12),⟨X,rfl,hX,(ud hX7)⟩,(ud d0),(ud d1),(fun _=>by simp[upd]),(ud d3),(ud d4),(ud d5),(ud d6),(ud d8),(ud d9),(ud d10)⟩⟩
  ·have q:=d2 hdep
   simp (disch:=omega) only[push_cast,qE,q,Bool.not_true,h3,h7,h9,h10,h12]
   exact ⟨_,fun w hw=>hw,⟨rfl,(us h3),(us h7),(us h9),(us h10),(us h12),⟨X,rfl,hX,(ud hX7)⟩,(ud d0),(ud d1),(ud d2),(fun _=>by simp[upd]),(ud d4),(ud d5),(ud d6),(ud d8),(ud d9),(ud d10)⟩⟩
  ·have q:=d3 hdep
   simp (disch:=omega) only[push_cast,qE,q,h3,h7,h9,h10,h12]
   exact ⟨_,fun w hw=>hw,⟨rfl,(us h3),(us h7),(us h9),(us h10),(us h12),⟨X,rfl,hX,(ud hX7)⟩,(ud d0),(ud d1),(ud d2),(ud d3),(fun _=>by simp[upd]),(ud d5),(ud d6),(ud d8),(ud d9),(ud d10)⟩⟩
  ·have q:=d4 hdep
   simp (disch:=omega) only[push_cast,qE,q,h3,h7,h9,h10,h12]
   refine lAg Shp.eq (sX _ km12) rfl rfl ?_
   simp (disch:=omega) only[push_cast,qE,h3,h7,h9,h10,h12]
   exact ⟨_,fun w hw=>hw,⟨rfl,(us h3),(us h7),(us h9),(us h10),(us h12),⟨X,rfl,hX,(ud hX7)⟩,(ud d0),(ud d1),(ud d2),(ud d3),(ud d4),(fun _=>by simp[upd]),(ud d6),(ud d8),(ud d9),(ud d10)⟩⟩
  ·have q:=d4 hdep
   simp (disch:=omega) only[push_cast,qE,q,h3,h7,h9,h10,h12]
   refine lAg Shp.eq (sX _ km3) rfl rfl ?_
   simp (disch:=omega) only[push_cast,qE,h3,h7,h9,h10,h12]
   exact ⟨_,fun w hw=>hw,⟨rfl,(us h3),(us h7),(us h9),(us h10),(us h12),⟨X,rfl,hX,(ud hX7)⟩,(ud d0),(ud d1),(ud d2),(ud d3),(ud d4),(ud d5),(fun _=>by simp[upd]),(ud d8),(ud d9),(ud d10)⟩⟩
  ·have q6:=d6 hdep.1
   have q4:=d4 hdep.2
   simp (disch:=omega) only[push_cast,qE,q6,q4,h3,h7,h9,h10,h12]
   refine callV en_24 (cNw (fun w' hw'=>hCR w' _ hw' gX) (fun v M7 hM7 hn7 hS7=>?_))
   (refine xe2 (hS7) (fun pax pcx hz=>?_); have ez:=hz.1; subst ez; have hrowx:=hz.2.1; clear hz)
   simp (disch:=omega) only[push_cast,qE,h3,h7,h9,h10,h12]
   exact ⟨(M7++X)++GG,fun w hw=>by rw[List.append_assoc]; exact hw,⟨rfl,(us h3),(us h7),(us h9),(us h10),(us h12),⟨M7++X,rfl,((nA hM7 hX)),(fun _=>⟨pax,pcx,by rw[hn0]; simp[upd],by rw[hn0]; exact hrowx.mono (fun p hp=>qL _ hp)⟩)⟩,(ud d0),(ud d1),(ud d2),(ud d3),(ud d4),(ud d5),(ud d6),(ud d8),(ud d9),(ud d10)⟩⟩
  ·have q5:=d5 hdep.1
   have q4:=d4 hdep.2.2
   obtain ⟨pax,pcx,q7,hrowx⟩:=hX7 hdep.2.1
   simp (disch:=omega) only[push_cast,qE,q5,q4,q7,h3,h7,h9,h10,h12]
   refine callV en_23 (cIs (fun w' hw'=>hEq w' _ pax pcx X hw' sX (fun p hp=>qL _ hp) hrowx) ?_)
   simp (disch:=omega) only[push_cast,qE,h3,h7,h9,h10,h12]
   exact ⟨_,fun w hw=>hw,⟨rfl,(us h3),(us h7),(us h9),(us h10),(us h12),⟨X,rfl,hX,(ud hX7)⟩,(ud d0),(ud d1),(ud d2),(ud d3),(ud d4),(ud d5),(ud d6),(fun _=>by simp[upd]),(ud d9),(ud d10)⟩⟩
  ·have q8:=d8 hdep.1
   have q4:=d4 hdep.2
   simp (disch:=omega) only[push_cast,qE,q8,q4,Bool.not_true,h3,h7,h9,h10,h12]
   exact ⟨_,fun w hw=>hw,⟨rfl,(us h3),(us h7),(us h9),(us h10),(us h12),⟨X,rfl,hX,(ud hX7)⟩,(ud d0),(ud d1),(ud d2),(ud d3),(ud d4),(ud d5),(ud d6),(ud d8),(fun _=>by simp[upd]),(ud d10)⟩⟩
  ·have q4:=d4 hdep.1
   have q9:=d9 hdep.2
   simp (disch:=omega) only[push_cast,qE,q4,q9,h3,h7,h9,h10,h12]
   exact ⟨_,fun w hw=>hw,⟨rfl,(us h3),(us h7),(us h9),(us h10),(us h12),⟨X,rfl,hX,(ud hX7)⟩,(ud d0),(ud d1),(ud d2),(ud d3),(ud d4),(ud d5),(ud d6),(ud d8),(ud d9),(fun _=>by simp[upd])⟩⟩
 rotate_left
 ·exact ⟨rfl,h3,h7,h9,h10,h12,⟨[],rfl,(by simp),(fun h=>by cases h)⟩,(fun h=>by cases h),(fun h=>by cases h),(fun h=>by cases h),(fun h=>by cases h),(fun h=>by cases h),(fun h=>by cases h),(fun h=>by cases h),(fun h=>by cases h),(fun h=>by cases h),(fun h=>by cases h)⟩
 intro D e ds L hD hI
 obtain ⟨rfl,h3,h7,h9,h10,h12,⟨X,rfl,hX,_⟩,_,_,_,_,_,_,_,_,_,d10⟩:=hI
 have q:=d10 (hD (10,[4,9]) (by simp))
 clear d10
 simp (disch:=omega) only[push_cast,qE,q,h3,h7,h9,h10,h12]
 rw[Vc]
 simp (disch:=omega) only[push_cast,qE,q,h3,h7,h9,h10,h12]
 have gXG:∀ p∈X++GG,wb.heap.size≤p.1:=(nA hX gG)
 refine lOn Shp.eq (qR _ km7) rfl ?_
 simp (disch:=omega) only[push_cast,qE,h3,h7,h9,h10,h12]
 have hsubQ:[oSm b7 (some ⟨bn,0,none⟩) l.length cap (some ⟨nb,0,none⟩) nt.length nt.length,(bn,Obj.cells cs.toArray 37 (0,0))].Sublist GG:=by
  rw[hGG,hMM,hLP,hMR,hL9,hL7,hSS]
  exact ((((((((List.Sublist.cons_cons _ (List.Sublist.cons_cons _ (List.nil_sublist _))).trans (List.sublist_append_right M9 _)).trans (List.sublist_append_right M0 _)).trans (List.sublist_append_right M14 _)).trans (List.sublist_cons_self _ _)).trans (List.sublist_cons_self _ _)).trans (List.sublist_append_right R _)).trans (List.sublist_append_right M20 _)).trans (List.sublist_cons_self _ _)
 have gA:∀ A:Own,(∀ p∈A,wb.heap.size≤p.1)→∀ p∈A++GG,wb.heap.size≤p.1:=fun A h p hp=>by
  rcases List.mem_append.1 hp with hp|hp
  ·exact h p hp
  ·exact gG p hp
 have st:∀ A:Own,(∀ p∈A,wb.heap.size≤p.1)→Stab wb (A++GG) [oSm b7 (some ⟨bn,0,none⟩) l.length cap (some ⟨nb,0,none⟩) nt.length nt.length,(bn,Obj.cells cs.toArray 37 (0,0))]:=fun A h=>Stab.of (hsubQ.trans (List.sublist_append_right A GG)) (gA A h)
 rw[Vb]
 simp (disch:=omega) only[push_cast,qE,h3,h7,h9,h10,h12]
 refine loopW (G:=Nat) (KkL wb GG [{ target:=.collected d,args:=#[] }] b3 b7 (.slice (some ⟨bn,0,none⟩) (l.length+2) cap) (.slice a9 (l.length+2) (l.length+2)) (.slice (some ⟨bn,0,none⟩) l.length cap) l.length) (fun i=>l.length - i) 0 GG (fun w hw=>hw.left hX) (by kernel_rfl) ⟨rfl,rfl,rfl,by omega,us h3,us h7,us h9,us h10,uu,uu⟩ ?_
 clear h3 h7 h9 h10 h12 q hX gXG
 rintro i wb e ds L ⟨rfl,rfl,rfl,hi,h3,h7,h9,h10,h98,h99⟩
 simp (disch:=omega) only[push_cast,qE,h3,h7,h9,h10,h98,h99]
 rw[Vc]
 simp (disch:=omega) only[push_cast,qE,h3,h7,h9,h10,h98,h99]
 refine cdD (fun hlt=>?_) (fun hge=>?_)
 rotate_left
 ·simp (disch:=omega) only[push_cast,qE,h3,h7,h9,h10,h98,h99]
  refine callV en_22 (callX_weak (L':=(d,Obj.deferred (some []))::MM) (fun w hw=>by rw[hGG] at hw; exact hw) (cIs (fun w' hw'=>hEqF w' _ hw' (fun p hp=>by rw[hGG] at hp; exact hp)) ?_))
  simp (disch:=omega) only[push_cast,qE,h3,h7,h9,h10,h98,h99]
  refine ⟨d,0,rfl,rfl,?_⟩
  simp (disch:=omega) only[push_cast,qE,h3,h7,h9,h10,h98,h99]
  exact finIs ((nC hd gM)) rfl
 obtain ⟨f,hf⟩:∃ f,l[i]?=some f:=⟨_,List.getElem?_eq_getElem (by omega)⟩
 obtain ⟨KF,fa,fc,hKF,hF,hc5⟩:=hOt.tyAt hf
 obtain ⟨b,off,rfl,hb⟩:∃ b off,a=some ⟨b,off,none⟩∧b < lo:=by
  obtain ⟨f0,l0,rfl⟩:∃ f l',l=f::l':=List.exists_cons_of_ne_nil (by rintro rfl; simp at hf)
  exact hsc.hr.some_of
 obtain ⟨xa,xc,x1,x2,x3,x4,x5,x6⟩:=hsc.hr.get i hf
 have hPT:∀ (w':World) (L':Own),Sy wb L' w'→(∀ p∈GG,p∈L')→(∀ p∈L',wb.heap.size≤p.1)→Calls Tryz.prog 25 #[tyV f fa fc] w' (RetsN w' (fun v M=>CopyO v M (partsP f))):=fun w' L' hw' h g =>
  partsO_walk w' (hs.mono hw' g) w'.heap.size (Nat.le_refl _) f fa fc ⟨hF.rd hw' (fun p hp=>h p (kS p (mBF p (.tail _ (hKF p hp))))),hF.le.1,hF.le.2⟩
 obtain ⟨q,hq⟩:∃ q,q=atP l nt [(i:Int)]:=⟨_,rfl⟩
 have hAt:∀ (w':World) (L':Own) (b119:Nat),Sy wb L' w'→(∀ p∈GG,p∈L')→(∀ p∈L',wb.heap.size≤p.1)→(qb3 b119 i)∈L'→Calls Tryz.prog 26 #[.agg #[.slice (some ⟨bn,0,none⟩) l.length cap,.slice (some ⟨nb,0,none⟩) nt.length nt.length],.slice (some ⟨b119,0,none⟩) 1 1] w' (RetsN w' (AtSO q)):=fun w' L' b119 hw' h g hm=>by
  rw[hq]
  exact atO_walk w' (hs.mono hw' g) w'.heap.size (Nat.le_refl _) (some ⟨bn,0,none⟩) l cap (some ⟨nb,0,none⟩) nt nt.length (schT w' L' hw' (fun p hp=>h p (kS p hp))) (some ⟨b119,0,none⟩) [(i:Int)] 1 (.inr ⟨b119,0,rfl,fun k n hk=>by
   cases k with
   | zero =>
    simp only[List.getElem?_cons_zero,Option.some.injEq] at hk
    subst hk
    exact At.of_own hw' hm rfl
   | succ k=>simp at hk⟩) (by simp)
 obtain ⟨pf1,pf2⟩:=parts_few f
 simp (disch:=omega) only[push_cast,qE,h3,h7,h9,h10,h98,h99]
 rw[Vb]
 simp (disch:=omega) only[push_cast,qE,h3,h7,h9,h10,h98,h99]
 refine freeT [0,1,2,3,4,5,7,8,9,10,11,12] [6,13,14,15] [oSm b7 (some ⟨bn,0,none⟩) l.length cap (some ⟨nb,0,none⟩) nt.length nt.length,(bn,Obj.cells cs.toArray 37 (0,0))] (by kernel_rfl) mixed (by kernel_rfl) (st [] (by simp)) ?_
 simp (disch:=omega) only[push_cast,qE,h3,h7,h9,h10,h98,h99]
 refine lOn Shp.eq mem0 rfl ?_
 simp (disch:=omega) only[push_cast,qE,h3,h7,h9,h10,h98,h99]
 refine lAg Shp.eq mem1 hc5 rfl ?_
 simp (disch:=omega) only[push_cast,qE,h3,h7,h9,h10,h98,h99]
 refine lOn Shp.eq mem0 rfl ?_
 simp (disch:=omega) only[push_cast,qE,h3,h7,h9,h10,h98,h99]
 refine lAg Shp.eq mem1 hc5 rfl ?_
 simp (disch:=omega) only[push_cast,qE,h3,h7,h9,h10,h98,h99]
 refine callV en_25 (cNw (fun w' hw'=>hPT w' _ hw' (fun p hp=>hp) gG) (fun v MA hMA hnA hSA=>?_))
 (refine xe2 (hSA) (fun pA cA hz=>?_); have ez:=hz.1; subst ez; have hOA:=hz.2; clear hz)
 simp (disch:=omega) only[push_cast,qE,h3,h7,h9,h10,h98,h99]
 refine ⟨st MA hMA,?_⟩
 refine callV en_25 (cNw (fun w' hw'=>hPT w' _ hw' (fun p hp=>qR _ hp) (gA MA hMA)) (fun v MB hMB hnB hSB=>?_))
 (refine xe2 (hSB) (fun pB cB hz=>?_); have ez:=hz.1; subst ez; have hOB:=hz.2; clear hz)
 simp (disch:=omega) only[push_cast,qE,h3,h7,h9,h10,h98,h99]
 have gBA:∀ p∈MB++MA,wb.heap.size≤p.1:=(nA hMB hMA)
 have stB:Stab wb (MB++(MA++GG)) [oSm b7 (some ⟨bn,0,none⟩) l.length cap (some ⟨nb,0,none⟩) nt.length nt.length,(bn,Obj.cells cs.toArray 37 (0,0))]:=by
  rw[← List.append_assoc]; exact st _ gBA
 refine ⟨stB,stB,stB,?_⟩
 refine lAg Shp.eq (qR _ (qR _ km7)) rfl rfl ?_
 simp (disch:=omega) only[push_cast,qE,h3,h7,h9,h10,h98,h99]
 refine bs_49_1 (newI fun b119 hb119 hn119=>?_)
 simp (disch:=omega) only[push_cast,qE,h3,h7,h9,h10,h98,h99]
 have g119:∀ p∈(qb3 b119 i)::(MB++(MA++GG)),wb.heap.size≤p.1:=(nC hb119 (nA hMB (gA MA hMA)))
 refine callV en_26 (cNw (fun w' hw'=>hAt w' _ b119 hw' (fun p hp=>.tail _ (qR _ (qR _ hp))) g119 (.head _)) (fun v MC hMC hnC hSC=>?_))
 (refine xe2 (hSC) (fun ga gc hz=>?_); have ez:=hz.1; subst ez; have hOC:=hz.2; clear hz)
 simp (disch:=omega) only[push_cast,qE,h3,h7,h9,h10,h98,h99,fldV]
 refine newI (fun b18 hb18 hn18=>?_)
 simp (disch:=omega) only[push_cast,qE,h3,h7,h9,h10,h98,h99,fldV]
 refine sXa 0 rfl Siz.eq rfl rfl ?_
 simp (disch:=omega) only[push_cast,qE,h3,h7,h9,h10,h98,h99]
 obtain ⟨Z,hZ⟩:∃ Z:Own,Z=(qb3 b119 i)::(MB++GG):=⟨_,rfl⟩
 have gZ:∀ p∈Z,wb.heap.size≤p.1:=(by rw[hZ]; exact (nC hb119 (gA MB hMB)))
 have zG:∀ p∈GG,p∈Z:=fun p hp=>by rw[hZ]; exact .tail _ (qR _ hp)
 have zB:∀ p∈MB,p∈Z:=fun p hp=>by rw[hZ]; exact .tail _ (qL _ hp)
 have zs:GG.Sublist Z:=by rw[hZ]; exact (List.sublist_append_right _ _).trans (List.sublist_cons_self _ _)
 have g2:∀ A C:Own,(∀ p∈A,wb.heap.size≤p.1)→(∀ p∈C,wb.heap.size≤p.1)→∀ p∈A++(C++(oFd b18 q.1 ga gc::Z)),wb.heap.size≤p.1:=fun A C h1 h2 p hp=>by
  rcases List.mem_append.1 hp with hp|hp
  ·exact h1 p hp
  rcases List.mem_append.1 hp with hp|hp
  ·exact h2 p hp
  rcases List.mem_cons.1 hp with rfl|hp
  ·exact hb18
  ·exact gZ p hp
 have hpm1:List.Perm (oFd b18 q.1 ga gc::(MC++((qb3 b119 i)::(MB++(MA++GG))))) (MA++(MC++(oFd b18 q.1 ga gc::Z))):=by
  rw[hZ]; exact pC
 refine callV en_27 (callX_base (fun w' hw'=>spoil_walk wb w' (partsP f) MA (MC++(oFd b18 q.1 ga gc::Z)) pA cA [115,112,111,105,108,116] (by simp) hOA (hw'.perm hpm1) (g2 MA MC hMA hMC)) ?_)
 rintro e' w' ⟨rfl,l2,A6,q1,q2,q3,q6,q4,gA6⟩
 refine ⟨_,A6++(MC++(oFd b18 q.1 ga gc::Z)),rfl,q4,?_⟩
 clear q4 w' hpm1
 simp (disch:=omega) only[push_cast,qE,h3,h7,h9,h10,h98,h99]
 refine lOn Shp.eq (qR _ (qR _ (.head _))) rfl ?_
 simp (disch:=omega) only[push_cast,qE,h3,h7,h9,h10,h98,h99]
 refine callV en_27 (callX_base (fun w' hw'=>spoil_walk wb w' q.1.sub MC (A6++(oFd b18 q.1 ga gc::Z)) ga gc [115,112,111,105,108,116] (by simp) hOC.toS (hw'.perm (List.perm_append_comm_assoc A6 MC _)) (g2 MC A6 hMC gA6)) ?_)
 rintro e' w' ⟨rfl,l3,C6,-,-,-,-,q4,gC6⟩
 refine ⟨_,C6++(A6++(oFd b18 q.1 ga gc::Z)),rfl,q4,?_⟩
 clear q4 w'
 simp (disch:=omega) only[push_cast,qE,h3,h7,h9,h10,h98,h99]
 have hGr:∀ w',Sy wb (C6++(A6++(oFd b18 q.1 ga gc::Z))) w'→Calls Tryz.prog 28 #[.slice pA (partsP f).length cA,str [103,114,111,119,110]] w' (fun e w'=>e=.returned (.tuple #[])∧∃ K':Own,OwS l2 K' pA cA∧Sy wb (K'++(C6++(oFd b18 q.1 ga gc::Z))) w'∧∀ p∈K',wb.heap.size≤p.1):=fun w' hw'=>by
  have h:=growF_walk wb w' l2 A6 (C6++(oFd b18 q.1 ga gc::Z)) pA cA [103,114,111,119,110] (by simp) q1 (by omega) (q6 _ pf2) (hw'.perm (List.perm_append_comm_assoc C6 A6 _)) (g2 A6 C6 gA6 gC6)
  rw[q2] at h
  exact h
 refine callV en_28 (callX_base hGr ?_)
 rintro e' w' ⟨rfl,A7,-,z2,gA7⟩
 refine ⟨_,A7++(C6++(oFd b18 q.1 ga gc::Z)),rfl,z2,?_⟩
 clear z2 w' hGr
 obtain ⟨L8,hL8⟩:∃ L:Own,L=A7++(C6++(oFd b18 q.1 ga gc::Z)):=⟨_,rfl⟩
 have g8:∀ p∈L8,wb.heap.size≤p.1:=by rw[hL8]; exact g2 A7 C6 gA7 gC6
 have z8:∀ p∈Z,p∈L8:=fun p hp=>by rw[hL8]; exact qR _ (qR _ (.tail _ hp))
 have zs8:GG.Sublist L8:=by rw[hL8]; exact ((zs.trans (List.sublist_cons_self _ _)).trans (List.sublist_append_right _ _)).trans (List.sublist_append_right _ _)
 simp (disch:=omega) only[push_cast,qE,h3,h7,h9,h10,h98,h99]
 refine lOn Shp.eq (by rw[hL8] at z8; exact z8 _ (zG _ km3)) rfl ?_
 simp (disch:=omega) only[push_cast,qE,h3,h7,h9,h10,h98,h99]
 refine ldAggF Shp.eq (x2.sub 2 (f.tcells xa xc) rfl) rfl (by rw[hL8] at g8; exact out_of (fun p hp=>Nat.lt_of_lt_of_le (Nat.lt_of_lt_of_le x1 hlo) (g8 p hp))) ?_
 simp (disch:=omega) only[push_cast,qE,h3,h7,h9,h10,h98,h99]
 refine callV en_29 (callX_weak (L':=L8) (fun w hw=>by rw[hL8]; exact hw) (cNw (S:=fun v M2=>PartS wb lo v M2 (partsP f)) (fun w' hw'=>(partsR_walk w' lo (Nat.le_trans hlo hw'.size) f xa xc ⟨x6.sy hlo hw' (fun p hp=>Nat.le_trans hlo (g8 p hp)),x3,x5⟩).mono fun e w2 ⟨v,M2,q1,q2,q3,q4⟩=>⟨v,M2,q1,q2,q3,q4.baseK (fun k hk=>hw'.rest k (by omega) (fun hm=>by
  obtain ⟨p,hp,he⟩:=List.mem_map.1 hm
  have:=g8 p hp
  omega))⟩) (fun v MD hMD hnD hSD=>?_)))
 (refine xe2 (hSD) (fun dA dC hz=>?_); have ez:=hz.1; subst ez; have y1:=hz.2.1; have y2:=hz.2.2; clear hz)
 simp (disch:=omega) only[push_cast,qE,h3,h7,h9,h10,h98,h99]
 have gD:∀ p∈MD++L8,wb.heap.size≤p.1:=(nA hMD g8)
 refine callV en_22 (cIs (fun w' hw'=>eqFields_walk w' w'.heap.size w'.heap.size (partsP f) pB dA cB dC (Nat.le_refl _) (Nat.le_refl _) (hOB.rd hw' (fun p hp=>qR _ (z8 _ (zB p hp)))) (y2 w' (fun k hk=>hw'.rest k (by omega) (fun hm=>by
  obtain ⟨p,hp,he⟩:=List.mem_map.1 hm
  have:=gD p hp
  omega)) (Nat.le_trans hlo hw'.size) (Held.of_sy hw' (fun p hp=>qL _ hp))) (by omega)) ?_)
 simp (disch:=omega) only[push_cast,qE,h3,h7,h9,h10,h98,h99,Bool.not_true]
 rw[Vc]
 simp (disch:=omega) only[push_cast,qE,h3,h7,h9,h10,h98,h99]
 exact ⟨i+1,GG,fun w hw=>hw.drop (zs8.trans (List.sublist_append_right _ _)) (fun p hp=>.inr (gD p hp)),⟨rfl,rfl,rfl,by omega,us h3,us h7,us h9,us h10,us h98,uu⟩,by omega⟩
end Go.Proofs.YtdmdgkpjjpijdaaGreatDoor
