/- YtdmdgkpjjpijdaaGreatDoor: walks, part 166: a reader: notes. -/
import Derived.Test.YtdmdgkpjjpijdaaGreatDoorW185
namespace Go.Proofs.YtdmdgkpjjpijdaaGreatDoor
open Go Go.K
open Nat renaming reduceEqDiff → qE
set_option maxRecDepth 100000
set_option linter.unusedVariables false
set_option linter.unusedSimpArgs false
set_option maxHeartbeats 8000000
def sgnB (c:UInt8):Bool:=decide (c=40∨c=41∨c=44∨c=63∨c=124)
def tokQ (s:List UInt8) (q:Nat):Tok:=match s[q]? with
 | none=>⟨0,[],q,q,-1⟩
 | some c=>if letB c=true then ⟨1,(s.take (weP s q)).drop q,q,weP s q,-1⟩ else if sgnB c=true then ⟨2,[c],q,q+1,-1⟩ else if c=34 then quoP s q else ⟨4,[],q,q+1,-1⟩
def tokP (s:List UInt8) (p:Nat):Tok:=tokQ s (blP s p)
structure RdRI (w0:World) (s:List UInt8) (p b4:Nat) (i:Nat) (wb:World) (e:Env) (ds:List Deferred) (L:Own):Prop where
 hw:wb=w0
 hds:ds=[]
 hi:i≤s.length
 hb:blP s p=blP s i
 h0:e 0=str s
 h1:e 1=i64 i
 h4:e 4=.pointer (some ⟨b4,0,none⟩)
 hL:L=[oTk b4 0 [] 0 0 0]
structure RwRI (w0:World) (s:List UInt8) (q b4:Nat) (n:Nat) (wb:World) (e:Env) (ds:List Deferred) (L:Own):Prop where
 hw:wb=w0
 hds:ds=[]
 hi:n≤s.length
 hb:weP s q=weP s n
 h0:e 0=str s
 h1:e 1=i64 q
 h4:e 4=.pointer (some ⟨b4,0,none⟩)
 h6:e 6=i64 n
 hL:L=[oTk b4 0 [] 0 0 0]
theorem readR_walk (w:World) (s:List UInt8) (p:Nat) (hs:s.length≤65536) (hp:p≤s.length):Calls Tryz.prog 74 #[str s,i64 p] w (Rets w (Is (.agg (tokP s p).cells))):=by
 refine enterT (args:=[str s,i64 p]) Tryz.func74 rfl Tryz.ntmps74 (congrArg Array.toList Tryz.results74) (by kernel_rfl) (by simp) (Sy.refl w) ?_
 refine sp ?_
 refine newI (fun b4 hb4 hn4=>?_)
 refine sp ?_
 have hL4:∀ o:Obj,∀ b∈[(b4,o)],w.heap.size≤b.1:=fun o b hb=>by rw[List.mem_singleton.1 hb]; exact hb4
 rw[Vb]
 refine sp ?_
 refine loopT (G:=Nat) (RdRI w s p b4) (fun i=>s.length - i) p (by kernel_rfl) ⟨rfl,rfl,hp,rfl,rfl,rfl,rfl,rfl⟩ ?_
 rintro i wb e ds L ⟨rfl,rfl,hi,hbl,h0,h1,h4,rfl⟩
 simp (disch:=omega) only[push_cast,qE,h0,h1,h4]
 refine gT rfl (fun hlt=>?_) (fun hge=>?_)
 rotate_left
 ·obtain rfl:i=s.length:=by omega
  simp (disch:=omega) only[push_cast,qE,h0,h1,h4]
  rw[Vc]
  simp (disch:=omega) only[push_cast,qE,h0,h1,h4]
  rw[Vc]
  simp (disch:=omega) only[push_cast,qE,h0,h1,h4,decide_true]
  refine sXa 0 rfl Siz.eq rfl rfl ?_
  simp (disch:=omega) only[push_cast,qE,h0,h1,h4]
  refine lAg Shp.eq mem0 rfl rfl ?_
  simp (disch:=omega) only[push_cast,qE,h0,h1,h4]
  refine finIs (hL4 _) ?_
  unfold tokP tokQ
  rw[hbl,show blP s s.length=s.length from runP_end (Nat.le_refl _),List.getElem?_eq_none (Nat.le_refl _)]
  rfl
 have hlt':i < s.length:=by omega
 have hat:=getD_at (s:=s) (i:=i) hlt'
 simp (disch:=omega) only[push_cast,qE,h0,h1,h4,Int.toNat_natCast]
 refine callV en_104 (cIs (fun w' _=>blankR_walk w' _) ?_)
 simp (disch:=omega) only[push_cast,qE,h0,h1,h4,Int.toNat_natCast]
 rw[Vc]
 simp (disch:=omega) only[push_cast,qE,h0,h1,h4]
 refine cdB (fun hbb=>?_) (fun hbb=>?_)
 ·simp (disch:=omega) only[push_cast,qE,h0,h1,h4]
  rw[Vb]
  simp (disch:=omega) only[push_cast,qE,h0,h1,h4]
  exact ⟨i+1,⟨rfl,rfl,by omega,by rw[hbl]; exact runP_step hat hbb,h0,uu,h4,rfl⟩,by omega⟩
 have hqi:blP s p=i:=by rw[hbl]; exact runP_stop hat hbb
 have htk:tokP s p=if letB (s.getD i 0)=true then ⟨1,(s.take (weP s i)).drop i,i,weP s i,-1⟩ else if sgnB (s.getD i 0)=true then ⟨2,[s.getD i 0],i,i+1,-1⟩ else if s.getD i 0=34 then quoP s i else ⟨4,[],i,i+1,-1⟩:=by
  unfold tokP tokQ
  rw[hqi,hat]
 simp (disch:=omega) only[push_cast,qE,h0,h1,h4]
 rw[Vc]
 simp (disch:=omega) only[push_cast,qE,h0,h1,h4]
 refine cdD (fun h=>by omega) (fun _=>?_)
 simp (disch:=omega) only[push_cast,qE,h0,h1,h4,Int.toNat_natCast]
 refine callV en_105 (cIs (fun w' _=>letterR_walk w' _) ?_)
 simp (disch:=omega) only[push_cast,qE,h0,h1,h4]
 rw[Vc]
 simp (disch:=omega) only[push_cast,qE,h0,h1,h4]
 refine cdD (fun hle=>?_) (fun hle=>?_)
 ·have hl:letB (s.getD i 0)=true:=decide_eq_true hle
  simp (disch:=omega) only[push_cast,qE,h0,h1,h4]
  rw[Vb]
  simp (disch:=omega) only[push_cast,qE,h0,h1,h4]
  refine loopT (G:=Nat) (RwRI wb s i b4) (fun n=>s.length - n) i (by kernel_rfl) ⟨rfl,rfl,hi,rfl,h0,h1,h4,uu,rfl⟩ ?_
  clear h0 h1 h4
  rintro n wb e ds L ⟨rfl,rfl,hn,hwe,h0,h1,h4,h6,rfl⟩
  have hin:i≤n∨n < i:=by omega
  simp (disch:=omega) only[push_cast,qE,h0,h1,h4,h6]
  refine gT rfl (fun hlt=>?_) (fun hge=>?_)
  rotate_left
  ·obtain rfl:n=s.length:=by omega
   have hw9:weP s i=s.length:=by rw[hwe]; exact runP_end (Nat.le_refl _)
   simp (disch:=omega) only[push_cast,qE,h0,h1,h4,h6]
   rw[Vc]
   simp (disch:=omega) only[push_cast,qE,h0,h1,h4,h6,Int.toNat_natCast]
   refine sXa 0 rfl Siz.eq rfl rfl ?_
   simp (disch:=omega) only[push_cast,qE,h0,h1,h4,h6]
   refine lAg Shp.eq mem0 rfl rfl ?_
   simp (disch:=omega) only[push_cast,qE,h0,h1,h4,h6]
   refine finIs (hL4 _) ?_
   rw[htk,if_pos hl,hw9]
   rfl
  have hlt2:n < s.length:=by omega
  have hat2:=getD_at (s:=s) (i:=n) hlt2
  simp (disch:=omega) only[push_cast,qE,h0,h1,h4,h6,Int.toNat_natCast]
  refine callV en_105 (cIs (fun w' _=>letterR_walk w' _) ?_)
  simp (disch:=omega) only[push_cast,qE,h0,h1,h4,h6]
  rw[Vc]
  simp (disch:=omega) only[push_cast,qE,h0,h1,h4,h6]
  refine cdD (fun hle2=>?_) (fun hle2=>?_)
  ·simp (disch:=omega) only[push_cast,qE,h0,h1,h4,h6]
   rw[Vb]
   simp (disch:=omega) only[push_cast,qE,h0,h1,h4,h6]
   exact ⟨n+1,⟨rfl,rfl,by omega,by rw[hwe]; exact runP_step hat2 (decide_eq_true hle2),h0,h1,h4,uu,rfl⟩,by omega⟩
  ·have hw9:weP s i=n:=by rw[hwe]; exact runP_stop hat2 (decide_eq_false hle2)
   have hin:i≤n:=by rw[← hw9]; exact runP_ge _ _ _
   simp (disch:=omega) only[push_cast,qE,h0,h1,h4,h6,Int.toNat_natCast]
   refine sXa 0 rfl Siz.eq rfl rfl ?_
   simp (disch:=omega) only[push_cast,qE,h0,h1,h4,h6]
   refine lAg Shp.eq mem0 rfl rfl ?_
   simp (disch:=omega) only[push_cast,qE,h0,h1,h4,h6]
   refine finIs (hL4 _) ?_
   rw[htk,if_pos hl,hw9]
   rfl
 ·have hnl:¬ letB (s.getD i 0)=true:=fun h=>hle (of_decide_eq_true h)
  have hch:(s.take (i+1)).drop i=[s.getD i 0]:=by
   rw[List.drop_take,Nat.add_sub_cancel_left,List.drop_eq_getElem_cons hlt',List.take_succ_cons,List.take_zero,List.getD_eq_getElem?_getD,List.getElem?_eq_getElem hlt']
   rfl
  have tn1:((i:Int)+1).toNat=i+1:=by omega
  have hsg:((s.getD i 0).toNat:Int)=40∨((s.getD i 0).toNat:Int)=41∨((s.getD i 0).toNat:Int)=44∨((s.getD i 0).toNat:Int)=63∨((s.getD i 0).toNat:Int)=124↔sgnB (s.getD i 0)=true:=by
   unfold sgnB
   rw[decide_eq_true_eq,show (((s.getD i 0).toNat:Int)=40)=(s.getD i 0=40) from u8_eq (n:=40) (by decide),show (((s.getD i 0).toNat:Int)=41)=(s.getD i 0=41) from u8_eq (n:=41) (by decide),show (((s.getD i 0).toNat:Int)=44)=(s.getD i 0=44) from u8_eq (n:=44) (by decide),show (((s.getD i 0).toNat:Int)=63)=(s.getD i 0=63) from u8_eq (n:=63) (by decide),show (((s.getD i 0).toNat:Int)=124)=(s.getD i 0=124) from u8_eq (n:=124) (by decide)]
  have q34:(((s.getD i 0).toNat:Int)=34)=(s.getD i 0=34):=u8_eq (by decide)
  simp (disch:=omega) only[push_cast,qE,h0,h1,h4,tn1,Int.toNat_natCast]
  repeat' (first|((first|((first|refine gT rfl ?_ ?_|refine gF rfl ?_ ?_|refine cdD ?_ ?_)<;>intro h)|((first|refine gbT rfl ?_ ?_|refine gbF rfl ?_ ?_|refine cdB ?_ ?_)<;>intro h<;>(try subst h))|refine lOa Shp.eq rfl ?_|refine lAa Shp.eq rfl rfl ?_|refine newI (fun b hb hn=>?_)|refine sXb Siz.eq rfl rfl ?_)<;>simp (disch:=omega) only[push_cast,qE,h0,h1,h4,tn1,Int.toNat_natCast])|(first|rw[Vc]|rw[Vb])<;>(try simp (disch:=omega) only[push_cast,qE,h0,h1,h4,tn1,Int.toNat_natCast]))
  all_goals first
   | (refine finIs (hL4 _) ?_; rw[htk,if_neg hnl,if_pos (hsg.1 (by omega)),← hch]; simp only[Tok.cells,Int.natCast_add]; rfl)
   | (refine callV en_106 (cIs (fun w' _=>quoteR_walk w' s i hs hlt') ?_)
      simp (disch:=omega) only[push_cast,qE,h0,h1,h4]
      refine sXa 0 rfl Siz.eq rfl rfl ?_
      simp (disch:=omega) only[push_cast,qE,h0,h1,h4]
      refine lAg Shp.eq mem0 rfl rfl ?_
      simp (disch:=omega) only[push_cast,qE,h0,h1,h4]
      refine finIs (hL4 _) ?_
      rw[htk,if_neg hnl,if_neg (fun h=>by have:=hsg.2 h; omega),if_pos (by rw[← q34]; omega)])
   | (refine finIs (hL4 _) ?_; rw[htk,if_neg hnl,if_neg (fun h=>by have:=hsg.2 h; omega),if_neg (by rw[← q34]; omega)]; simp only[Tok.cells,Int.natCast_add]; rfl)
abbrev oRr (b:Nat) (s:List UInt8) (p ft:Int) (v:Value):Nat×Obj:=(b,Obj.cells #[str s,i64 p,i64 ft,v] 82 (0,0))
theorem seeR_walk (w:World) (rb:Nat) (s:List UInt8) (p:Nat) (hs:s.length≤65536) (hp:p≤s.length) (h:At w rb 0 [str s,i64 p]):Calls Tryz.prog 41 #[.pointer (some ⟨rb,0,none⟩)] w (Rets w (Is (.agg (tokP s p).cells))):=by
 refine enterT (args:=[.pointer (some ⟨rb,0,none⟩)]) Tryz.func41 rfl Tryz.ntmps41 (congrArg Array.toList Tryz.results41) (by kernel_rfl) (by simp) (Sy.refl w) ?_
 refine sp ?_
 refine newI (fun b2 hb2 hn2=>?_)
 refine sp ?_
 have hL2:∀ o:Obj,∀ b∈[(b2,o)],w.heap.size≤b.1:=fun o b hb=>by rw[List.mem_singleton.1 hb]; exact hb2
 refine freeT [0,1,2,3,4,5,6,7] [8,9] [] (by kernel_rfl) mixed (by kernel_rfl) (Stab.of (List.nil_sublist _) (hL2 _)) ?_
 refine sp ?_
 refine ldF Shp.eq (h.sub 0 [str s] rfl) (by simp) ?_
 refine sp ?_
 refine ldF Shp.eq (h.sub 1 [i64 p] rfl) (by simp) ?_
 refine sp ?_
 refine callV en_74 (cIs (fun w' _=>readR_walk w' s p hs hp) ?_)
 refine sp ?_
 refine ⟨Stab.of (List.nil_sublist _) (hL2 _),sXa 0 rfl Siz.eq rfl rfl ?_⟩
 refine sp ?_
 refine ⟨Stab.of (List.nil_sublist _) (hL2 _),lAg Shp.eq mem0 rfl rfl ?_⟩
 refine sp ?_
 exact finIs (hL2 _) rfl
set_option maxHeartbeats 4000000
theorem infoNote:(Tryz.prog.info? 90).map (fun i=>(i.zero,i.size,i.bytes))=some (some (.agg #[str [],str []]),2,32):=by kernel_rfl
theorem pRest_le {s:List UInt8}:∀ (m p r:Nat) (t:List UInt8),p≤s.length→pRest s m p=.ok t r→p < r∧r≤s.length
 | 0,p,r,t,hp,h=>by cases h
 | m+1,p,r,t,hp,h=>by
  rw[pRest] at h
  split at h
  ·cases h
  rename_i c hc
  have hlt:=(List.getElem?_eq_some_iff.1 hc).1
  split at h
  ·cases h; exact ⟨by omega,by omega⟩
  split at h
  ·obtain ⟨x,q,h1,h2⟩:=PR.and_eq_ok h
   obtain ⟨l,q2,h3,h4⟩:=PR.and_eq_ok h2
   cases h4
   have hq:p < q∧q≤s.length:=by
    unfold pEsc at h1
    split at h1
    ·cases h1
    rename_i c1 g1
    have l1:=(List.getElem?_eq_some_iff.1 g1).1
    split at h1
    ·cases h1; omega
    split at h1
    ·cases h1
    split at h1
    ·cases h1
    rename_i c2 g2
    have l2:=(List.getElem?_eq_some_iff.1 g2).1
    split at h1
    ·cases h1
    split at h1
    ·cases h1
    rename_i c3 g3
    have l3:=(List.getElem?_eq_some_iff.1 g3).1
    split at h1
    ·cases h1
    ·cases h1; omega
   have:=pRest_le m q r l hq.2 h3
   omega
  split at h
  ·obtain ⟨l,q2,h3,h4⟩:=PR.and_eq_ok h
   cases h4
   have:=pRest_le m (p+1) r l (by omega) h3
   omega
  ·cases h
theorem pQuote_le {s:List UInt8} {q r:Nat} {t:List UInt8} (hq:q≤s.length) (h:pQuote s q=.ok t r):q < r∧r≤s.length∧blP s r=r:=by
 unfold pQuote at h
 split at h
 ·rename_i h1
  have l1:=(List.getElem?_eq_some_iff.1 h1).1
  obtain ⟨x,p,h2,h3⟩:=PR.and_eq_ok h
  cases h3
  have h4:=pRest_le _ _ _ _ (by omega) h2
  have h5:=runP_ge blankB s p
  exact ⟨by unfold blP; omega,runP_le h4.2,runP_idem _ _ _⟩
 ·cases h
def noteCs (nt:List NoteQ):List Value:=nt.flatMap fun n=>[str n.1,str n.2]
theorem noteCs_append (a b:List NoteQ):noteCs (a++b)=noteCs a++noteCs b:=by simp[noteCs]
theorem row_notes {w:World} {R:Own} {v:Value} {nt:List NoteQ} (h:RowO w 90 2 R [] v nt.length (noteCs nt)):∃ a c,v=.slice a nt.length c∧OwN nt R a c:=by
 obtain ⟨_,⟨rfl,h1,rfl⟩|⟨b,c,cs,rfl,rfl,h1,h2,h3,h4,h5⟩⟩:=h
 ·have:nt=[]:=List.eq_nil_of_length_eq_zero h1
  subst this
  exact ⟨none,0,rfl,.inl ⟨rfl,rfl,rfl,rfl⟩⟩
 ·exact ⟨_,c,rfl,.inr ⟨b,cs,rfl,rfl,h2,h3,h4,h5⟩⟩
structure NtI (w0:World) (rb:Nat) (s:List UInt8) (M:Own) (t0:PR (List NoteQ)) (p:Nat) (wb:World) (e:Env) (ds:List Deferred) (L:Own):Prop where
 hw:wb=w0
 hds:ds=[]
 hp:p≤s.length
 h0:e 0=.pointer (some ⟨rb,0,none⟩)
 o:∃ (v:Value) (R:Own) (nt:List NoteQ) (m:Nat),e 3=v∧RowO w0 90 2 R [] v nt.length (noteCs nt)∧nt.length≤blP s p∧s.length - blP s p < m∧(t0=(pNotes s m (blP s p)).and fun l r=>.ok (nt++l) r)∧L=oRd rb s p::(R++M)
theorem notes_walk (wb w:World) (rb:Nat) (s:List UInt8) (p:Nat) (M:Own) (hs:s.length≤65536) (hp:p≤s.length) (hrb:wb.heap.size≤rb) (hw:Sy wb (oRd rb s p::M) w) :
 Calls Tryz.prog 38 #[.pointer (some ⟨rb,0,none⟩)] w (PRet wb rb s M (pNotes s (s.length+1) (blP s p)) fun nt _ v K=>∃ a c,v=.slice a nt.length c∧OwN nt K a c):=by
 refine enterB (args:=[.pointer (some ⟨rb,0,none⟩)]) Tryz.func38 rfl Tryz.ntmps38 (congrArg Array.toList Tryz.results38) (by kernel_rfl) (by simp) hw ?_
 refine sp ?_
 rw[Vb]
 refine sp ?_
 refine loopW (G:=Nat) (NtI wb rb s M (pNotes s (s.length+1) (blP s p))) (fun p=>s.length - blP s p) p _ (fun w hw=>hw) (by kernel_rfl) ⟨rfl,rfl,hp,rfl,.slice none 0 0,[],[],s.length+1,rfl,⟨rfl,.inl ⟨rfl,rfl,rfl⟩⟩,by simp,by omega,by
  cases pNotes s (s.length+1) (blP s p)<;>rfl,rfl⟩ ?_
 rintro i wb e ds L ⟨rfl,rfl,hi,h0,v,R,nt,m,h3,hR,hni,hm,ht,rfl⟩
 obtain ⟨m,rfl⟩:∃ k,m=k+1:=⟨m - 1,by omega⟩
 have hRn:∀ b∈R,wb.heap.size≤b.1:=RowO.new hR (by simp)
 have hble:blP s i≤s.length:=runP_le hi
 have hfall:∀ (q:Nat) (K:Own),(∀ b∈K,wb.heap.size≤b.1)→pNotes s (m+1) (blP s i)=.no q→∀ w',Sy wb (K++(R++M)) w'→PRet wb rb s M (pNotes s (s.length+1) (blP s p)) (fun nt _ v K=>∃ a c,v=.slice a nt.length c∧OwN nt K a c) (.panicked [faultE q]) w':=fun q K hK hq2 w' hw'=>by
  refine PRet.fall (K++R) (by rw[ht,hq2]; rfl) (fun b hb=>?_) (by rw[List.append_assoc]; exact hw')
  rcases List.mem_append.1 hb with hb|hb
  ·exact hK b hb
  ·exact hRn b hb
 rw[Vb]
 simp (disch:=omega) only[push_cast,qE,h0,h3]
 refine callV en_72 (callX_pr (fun w' hw'=>quoted_read wb w' rb s i (R++M) hs hi hrb hw') (fun k q v1 p1 K hr hq hp' hS hK=>?_) (fun q K hr hK=>?_))
 rotate_left
 ·simp (disch:=omega) only[push_cast,qE,h0,h3]
  exact hfall q K hK (by rw[pNotes,hr]; rfl)
 have e1:=hS.1
 have e2:=hS.2
 subst e1
 subst e2
 have g1:=pQuote_le hble hr
 simp (disch:=omega) only[push_cast,qE,h0,h3]
 refine callV en_72 (callX_pr (fun w' hw'=>quoted_read wb w' rb s p1 (R++M) hs hp' hrb hw') (fun t q2 v2 p2 K hr2 hq2 hp2 hS hK=>?_) (fun q2 K hr2 hK=>?_))
 rotate_left
 ·simp (disch:=omega) only[push_cast,qE,h0,h3]
  exact hfall q2 K hK (by rw[pNotes,hr,PR.and_ok,← hq,hr2]; rfl)
 have e1:=hS.1
 have e2:=hS.2
 subst e1
 subst e2
 have g2:=pQuote_le (by rw[hq]; exact g1.2.1) hr2
 simp (disch:=omega) only[push_cast,qE,h0,h3]
 refine bs_25_1 (newI fun b9 hb9 hn9=>?_)
 simp (disch:=omega) only[push_cast,qE,h0,h3]
 refine valX_weak (L':=R++((qb5 b9 k t)::oRd rb s p2::M)) (fun w hw=>hw.perm (?_:List.Perm ((qb5 b9 k t)::oRd rb s p2::(R++M)) _)) (appendI un_25 infoNote rfl (m:=1) (news:=[str k,str t]) (RowO.frame hR) rfl (CanRead.of_own (e:=90) (b:=b9) (cs:=[str k,str t]) (n:=2) (List.mem_append_right _ (.head _)) rfl rfl) (by simp[Value.oneCell']) (by simp only[maxLen]; omega) (by omega) (fun v5 L5 hro5 _=>?_))
 ·exact pC
 (refine Exists.elim (RowO.unframe hro5) (fun R5 hz=>?_); have ez:=hz.1; subst ez; have hR5:=hz.2; clear hz)
 simp (disch:=omega) only[push_cast,qE,h0,h3]
 have hle2:blP s p2≤s.length:=runP_le hp2
 have hfull:∀ r,(pNotes s (m+1) (blP s i))=r→pNotes s (s.length+1) (blP s p)=r.and fun l r=>.ok (nt++l) r:=fun r h=>by rw[ht,h]
 have hstep:pNotes s (m+1) (blP s i)=match pSign s 44 q2 with
  | none=>.ok [(k,t)] q2
  | some r2=>(pNotes s m r2).and fun l r3=>.ok ((k,t)::l) r3:=by
  rw[pNotes,hr,PR.and_ok,← hq,hr2,PR.and_ok]
  cases pSign s 44 q2<;>rfl
 refine callV en_37 (callX_two (fun L'=>s[blP s p2]?=some 44∧L'=oRd rb s (blP s p2+1)::(R5++((qb5 b9 k t)::M))) (fun L'=>s[blP s p2]?≠some 44∧L'=oRd rb s (blP s p2)::(R5++((qb5 b9 k t)::M))) (fun w' hw'=>take_walk wb w' rb s p2 _ 44 44 rfl hs hp2 (hw'.perm (?_:List.Perm (R5++((qb5 b9 k t)::oRd rb s p2::M)) _))) (fun L' hL'=>?_) (fun L' hL'=>?_))
 ·exact pC
 ·have h:=hL'.1
  have e:=hL'.2
  subst e
  have hlt:=(List.getElem?_eq_some_iff.1 h).1
  simp (disch:=omega) only[push_cast,qE,h0,h3,Bool.not_true]
  rw[Vc]
  simp (disch:=omega) only[push_cast,qE,h0,h3,Bool.not_true]
  have hq44:pSign s 44 q2=some (blP s (blP s p2+1)):=by
   unfold pSign
   rw[← hq2,if_pos h]
  have hge:blP s p2+1≤blP s (blP s p2+1):=runP_ge _ _ _
  refine ⟨blP s p2+1,oRd rb s (blP s p2+1)::(R5++M),fun w hw=>hw.mid (_::R5) [_] (fun p hp=>by rw[List.mem_singleton.1 hp]; exact hb9),⟨rfl,rfl,by omega,h0,_,R5,nt++[(k,t)],m,rfl,hR5.cast (by simp) (by rw[noteCs_append]; rfl),by simp only[List.length_append,List.length_cons,List.length_nil]; omega,by omega,?_,rfl⟩,by omega⟩
  rw[hfull _ hstep,hq44]
  simp only
  cases pNotes s m (blP s (blP s p2+1))<;>simp[PR.and]
 ·have h:=hL'.1
  have e:=hL'.2
  subst e
  simp (disch:=omega) only[push_cast,qE,h0,h3,Bool.not_false]
  rw[Vc]
  simp (disch:=omega) only[push_cast,qE,h0,h3,Bool.not_false]
  have hq44:pSign s 44 q2=none:=by
   unfold pSign
   rw[← hq2,if_neg h]
  have hR6:=hR5.cast (n':=(nt++[(k,t)]).length) (by simp) (show _=noteCs (nt++[(k,t)]) by rw[noteCs_append]; rfl)
  refine fun w' hw'=>PRet.leaf _ (blP s p2) R5 (x:=nt++[(k,t)]) (q:=q2) ?_ (by rw[blP,runP_idem]; exact hq2) hle2 (row_notes hR6) (RowO.new hR6 (by simp)) (hw'.mid (_::R5) [_] (fun p hp=>by rw[List.mem_singleton.1 hp]; exact hb9))
  rw[hfull _ hstep,hq44]
  rfl
end Go.Proofs.YtdmdgkpjjpijdaaGreatDoor
