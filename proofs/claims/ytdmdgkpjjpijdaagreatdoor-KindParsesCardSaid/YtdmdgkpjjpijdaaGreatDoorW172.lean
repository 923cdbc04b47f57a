/- YtdmdgkpjjpijdaaGreatDoor: walks, part 171: a reader: fields. -/
import Derived.Test.YtdmdgkpjjpijdaaGreatDoorW170
import Derived.Test.YtdmdgkpjjpijdaaGreatDoorW168
import Derived.Test.YtdmdgkpjjpijdaaGreatDoorW8
namespace Go.Proofs.YtdmdgkpjjpijdaaGreatDoor
open Go Go.K
set_option maxRecDepth 100000
set_option linter.unusedVariables false
set_option linter.unusedSimpArgs false
set_option maxHeartbeats 4000000
theorem mk_field {nm : List UInt8} {nl : Bool} {t : Ty} {q : Nat} {K1 K2 : Own} {a a2 : Option Addr} {c c2 : Nat} (hn : nm.length ≤ 9223372036854775807) (hq : q ≤ 1000000) (h1 : OwS (t.l.map (·.1)) K1 a c) (h2 : OwPS (t.l.map (·.2)) K2 a2 c2) :
    FieldV (mkF nm nl t q) (.tuple #[.agg #[str nm,.bool nl,i64 t.k,i64 t.wd,i64 t.id,i64 t.ix,.slice a t.l.length c],.agg #[i64 q,.slice a2 t.l.length c2]]) (K1 ++ K2) := by
  refine ⟨a,c,a2,c2,K1,K2,?_,rfl,OwS.toF (f := (mkF nm nl t q).1) h1 hn,OwPS.toP (x := (mkF nm nl t q).2) h2 hq⟩
  simp [mkF,Fld.cells,Fld.nm,Fld.nl,Fld.k,Fld.wd,Fld.id,Fld.ix,Fld.sub,Sp.at_,Sp.kids]
theorem field_step (d : Nat) (hT : TypeOK d) : FieldOK (d + 1) := by
  intro wb w rb s p M hQ hd
  have hs := hQ.hs
  have hrb := hQ.hrb
  refine enterB (args := [.pointer (some ⟨rb,0,none⟩)]) Tryz.func48 rfl Tryz.ntmps48 (congrArg Array.toList Tryz.results48) (by kernel_rfl) (by simp) hQ.hw ?_
  simp (disch:=omega) only[push_cast,Nat.reduceEqDiff]
  refine newI (fun b2 hb2 hn2 => ?_)
  simp (disch:=omega) only[push_cast,Nat.reduceEqDiff]
  refine newI (fun b3 hb3 hn3 => ?_)
  simp (disch:=omega) only[push_cast,Nat.reduceEqDiff]
  have hble : blP s p ≤ s.length := runP_le hQ.hp
  refine callV en_77 (callX_pr (fun w' hw' => word_walk wb w' rb s p (oSp b3 0 none 0 0 :: oFi b2 (.mk [] false 0 0 0 0 []) none 0 :: M) hs hQ.hp hrb (hw'.perm (?_ : List.Perm (oSp b3 0 none 0 0 :: oFi b2 (.mk [] false 0 0 0 0 []) none 0 :: oRd rb s p :: M) _))) (fun nm q v p1 K hr hq hp1 hS hK => ?_) (fun q K hr hK => ?_))
  · exact permC fun f => by simp only [wt_append,wt_cons,wt_nil]; omega
  rotate_left
  · simp (disch:=omega) only[push_cast,Nat.reduceEqDiff]
    refine fun w' hw' => PRet.fall (K ++ [oSp b3 0 none 0 0,oFi b2 (.mk [] false 0 0 0 0 []) none 0]) (by rw [pField,hr,PR.and_no]) (fun b hb => ?_) (by simpa only [List.append_assoc,List.cons_append,List.nil_append] using hw')
    simp only [List.mem_append,List.mem_cons,List.mem_nil_iff,or_false] at hb
    rcases hb with hb | rfl | rfl
    · exact hK b hb
    · exact hb3
    · exact hb2
  have e1 := hS.1
  have e2 := hS.2
  subst e1
  subst e2
  have g1 := pWord_le hble hr
  have hnm := word_ne hr
  simp (disch:=omega) only[push_cast,Nat.reduceEqDiff]
  have hX : ∀ b ∈ oSp b3 0 none 0 0 :: oFi b2 (.mk [] false 0 0 0 0 []) none 0 :: M,wb.heap.size ≤ b.1 := fun b hb => by
    simp only [List.mem_cons] at hb
    rcases hb with rfl | rfl | hb
    · exact hb3
    · exact hb2
    · exact hQ.hM b hb
  refine callV en_78 (callX_pr (fun w' hw' => hT wb w' rb s p1 _ ⟨hs,hQ.says,hQ.lib,hp1,hrb,hX,hw'⟩ (by omega)) (fun t q2 v p2 K hr2 hq2 hp2 hS hK => ?_) (fun q2 K hr2 hK => ?_))
  rotate_left
  · simp (disch:=omega) only[push_cast,Nat.reduceEqDiff]
    refine fun w' hw' => PRet.fall (K ++ [oSp b3 0 none 0 0,oFi b2 (.mk [] false 0 0 0 0 []) none 0]) (by rw [pField,hr,PR.and_ok,← hq,hr2,PR.and_no]) (fun b hb => ?_) (by simpa only [List.append_assoc,List.cons_append,List.nil_append] using hw')
    simp only [List.mem_append,List.mem_cons,List.mem_nil_iff,or_false] at hb
    rcases hb with hb | rfl | rfl
    · exact hK b hb
    · exact hb3
    · exact hb2
  (refine Exists.elim (hS) (fun a hz => Exists.elim hz (fun c hz => Exists.elim hz (fun a2 hz => Exists.elim hz (fun c2 hz => Exists.elim hz (fun K1 hz => Exists.elim hz (fun K2 hz => ?_)))))); have ez := hz.1; subst ez; have ez := hz.2.1; subst ez; have hO1 := hz.2.2.1; have hO2 := hz.2.2.2; clear hz)
  have g2 := pTyped_goes (pField_goes s d) _ _ _ (by rw [hq]; exact g1.2.1) hr2
  simp (disch:=omega) only[push_cast,Nat.reduceEqDiff]
  refine newI (fun b6 hb6 hn6 => ?_)
  simp (disch:=omega) only[push_cast,Nat.reduceEqDiff]
  refine storeX 0 rfl Siz.eq rfl rfl (by simp [Value.oneCell']) (by simp) ?_
  simp (disch:=omega) only[push_cast,Nat.reduceEqDiff]
  have hle2 : blP s p2 ≤ s.length := runP_le hp2
  have hL : ∀ (o6 o3 o2 : Obj) (p9 : Nat),∀ b ∈ (b6,o6) :: oRd rb s p9 :: ((K1 ++ K2) ++ ((b3,o3) :: (b2,o2) :: M)),wb.heap.size ≤ b.1 := fun o6 o3 o2 p9 b hb => by
    simp only [List.mem_cons,List.mem_append] at hb hK
    rcases hb with rfl | rfl | hb | rfl | rfl | hb
    · exact hb6
    · exact hrb
    · exact hK b hb
    · exact hb3
    · exact hb2
    · exact hQ.hM b hb
  have hst : ∀ (o3 o2 : Obj) (p9 : Nat),Stab wb (oTp b6 t.k t.wd t.id t.ix a t.l.length c :: oRd rb s p9 :: ((K1 ++ K2) ++ ((b3,o3) :: (b2,o2) :: M))) [oTp b6 t.k t.wd t.id t.ix a t.l.length c] := fun o3 o2 p9 => Stab.of (.cons_cons _ (List.nil_sublist _)) (hL _ _ _ _)
  refine freeTs [0,1,2,5,6,7] [3,4,8,9] [[3,4,8,9]] [oTp b6 t.k t.wd t.id t.ix a t.l.length c] (by kernel_rfl) mixed (by kernel_rfl) (by kernel_rfl) (fun h => by cases h) (hst _ _ _) ?_
  simp (disch:=omega) only[push_cast,Nat.reduceEqDiff]
  refine loadX_agg Shp.eq mem0 rfl rfl ?_
  simp (disch:=omega) only[push_cast,Nat.reduceEqDiff]
  intro tt htt
  simp only [List.mem_cons,List.mem_nil_iff,or_false] at htt
  subst htt
  simp (disch:=omega) only[push_cast,Nat.reduceEqDiff]
  have hst2 : ∀ (o3 o2 : Obj) (p9 : Nat),Stab wb (oRd rb s p9 :: oTp b6 t.k t.wd t.id t.ix a t.l.length c :: ((K1 ++ K2) ++ ((b3,o3) :: (b2,o2) :: M))) [oTp b6 t.k t.wd t.id t.ix a t.l.length c] := fun o3 o2 p9 => Stab.of (.cons _ (.cons_cons _ (List.nil_sublist _))) (fun b hb => by
    simp only [List.mem_cons,List.mem_append] at hb hK
    rcases hb with rfl | rfl | hb | rfl | rfl | hb
    · exact hrb
    · exact hb6
    · exact hK b hb
    · exact hb3
    · exact hb2
    · exact hQ.hM b hb)
  have hst3 : ∀ (o3 o2 : Obj) (p9 : Nat),Stab wb ((b2,o2) :: (b3,o3) :: oTp b6 t.k t.wd t.id t.ix a t.l.length c :: oRd rb s p9 :: ((K1 ++ K2) ++ M)) [oTp b6 t.k t.wd t.id t.ix a t.l.length c] := fun o3 o2 p9 => Stab.of (.cons _ (.cons _ (.cons_cons _ (List.nil_sublist _)))) (fun b hb => by
    simp only [List.mem_cons,List.mem_append] at hb hK
    rcases hb with rfl | rfl | rfl | rfl | hb | hb
    · exact hb2
    · exact hb3
    · exact hb6
    · exact hrb
    · exact hK b hb
    · exact hQ.hM b hb)
  refine callV en_37 (callX_two (fun L' => s[blP s p2]? = some 63 ∧ L' = oRd rb s (blP s p2 + 1) :: oTp b6 t.k t.wd t.id t.ix a t.l.length c :: ((K1 ++ K2) ++ (oSp b3 0 none 0 0 :: oFi b2 (.mk [] false 0 0 0 0 []) none 0 :: M))) (fun L' => s[blP s p2]? ≠ some 63 ∧ L' = oRd rb s (blP s p2) :: oTp b6 t.k t.wd t.id t.ix a t.l.length c :: ((K1 ++ K2) ++ (oSp b3 0 none 0 0 :: oFi b2 (.mk [] false 0 0 0 0 []) none 0 :: M))) (fun w' hw' => take_walk wb w' rb s p2 _ 63 63 rfl hs hp2 (hw'.perm (List.Perm.swap _ _ _))) (fun L' hL' => ?_) (fun L' hL' => ?_))
  · have h := hL'.1
    have e := hL'.2
    subst e
    try simp (disch:=omega) only[push_cast,Nat.reduceEqDiff]
    refine ⟨hst2 _ _ _,?_⟩
    try simp (disch:=omega) only[push_cast,Nat.reduceEqDiff]
    refine ⟨hst2 _ _ _,storeX_weak (L' := oFi b2 (.mk [] false 0 0 0 0 []) none 0 :: oSp b3 0 none 0 0 :: oTp b6 t.k t.wd t.id t.ix a t.l.length c :: oRd rb s (blP s p2 + 1) :: ((K1 ++ K2) ++ M)) (fun w hw => hw.perm (?_ : List.Perm (oRd rb s (blP s p2 + 1) :: oTp b6 t.k t.wd t.id t.ix a t.l.length c :: ((K1 ++ K2) ++ (oSp b3 0 none 0 0 :: oFi b2 (.mk [] false 0 0 0 0 []) none 0 :: M))) _)) (storeX 0 rfl Siz.eq rfl rfl (by simp [Value.oneCell']) (by simp) ?_)⟩
    · exact permC fun f => by simp only [wt_append,wt_cons,wt_nil]; omega
    try simp (disch:=omega) only[push_cast,Nat.reduceEqDiff]
    refine ⟨hst3 _ _ _,storeX 1 rfl Siz.eq rfl rfl (by simp [Value.oneCell']) (by simp) ?_⟩
    try simp (disch:=omega) only[push_cast,Nat.reduceEqDiff]
    refine ⟨hst3 _ _ _,?_⟩
    try simp (disch:=omega) only[push_cast,Nat.reduceEqDiff]
    refine loadX_agg Shp.eq mem0 rfl rfl ?_
    try simp (disch:=omega) only[push_cast,Nat.reduceEqDiff]
    refine loadX_agg Shp.eq mem1 rfl rfl ?_
    try simp (disch:=omega) only[push_cast,Nat.reduceEqDiff]
    refine fun w' hw' => PRet.leaf (S := fun x _ v K => FieldV x v K) _ ((blP s p2 + 1)) (K1 ++ K2) (x := mkF nm true t (blP s p)) (q := blP s ((blP s p2 + 1))) ?_ rfl ?_ (mk_field (by omega) (by omega) hO1 hO2) hK ?_
    · have hq63 : pSign s 63 q2 = some (blP s (blP s p2 + 1)) := by
        unfold pSign
        rw [← hq2,if_pos h]
      rw [pField,hr,PR.and_ok,← hq,hr2,PR.and_ok,hq63]
    · have := (List.getElem?_eq_some_iff.1 h).1
      omega
    · exact Sy.left (A := [_,_,_]) hw' (fun b hb => by
        simp only [List.mem_cons,List.mem_nil_iff,or_false] at hb
        rcases hb with rfl | rfl | rfl
        · exact hb2
        · exact hb3
        · exact hb6)
  · have h := hL'.1
    have e := hL'.2
    subst e
    try simp (disch:=omega) only[push_cast,Nat.reduceEqDiff]
    refine ⟨hst2 _ _ _,?_⟩
    try simp (disch:=omega) only[push_cast,Nat.reduceEqDiff]
    refine ⟨hst2 _ _ _,storeX_weak (L' := oFi b2 (.mk [] false 0 0 0 0 []) none 0 :: oSp b3 0 none 0 0 :: oTp b6 t.k t.wd t.id t.ix a t.l.length c :: oRd rb s (blP s p2) :: ((K1 ++ K2) ++ M)) (fun w hw => hw.perm (?_ : List.Perm (oRd rb s (blP s p2) :: oTp b6 t.k t.wd t.id t.ix a t.l.length c :: ((K1 ++ K2) ++ (oSp b3 0 none 0 0 :: oFi b2 (.mk [] false 0 0 0 0 []) none 0 :: M))) _)) (storeX 0 rfl Siz.eq rfl rfl (by simp [Value.oneCell']) (by simp) ?_)⟩
    · exact permC fun f => by simp only [wt_append,wt_cons,wt_nil]; omega
    try simp (disch:=omega) only[push_cast,Nat.reduceEqDiff]
    refine ⟨hst3 _ _ _,storeX 1 rfl Siz.eq rfl rfl (by simp [Value.oneCell']) (by simp) ?_⟩
    try simp (disch:=omega) only[push_cast,Nat.reduceEqDiff]
    refine ⟨hst3 _ _ _,?_⟩
    try simp (disch:=omega) only[push_cast,Nat.reduceEqDiff]
    refine loadX_agg Shp.eq mem0 rfl rfl ?_
    try simp (disch:=omega) only[push_cast,Nat.reduceEqDiff]
    refine loadX_agg Shp.eq mem1 rfl rfl ?_
    try simp (disch:=omega) only[push_cast,Nat.reduceEqDiff]
    refine fun w' hw' => PRet.leaf (S := fun x _ v K => FieldV x v K) _ ((blP s p2)) (K1 ++ K2) (x := mkF nm false t (blP s p)) (q := blP s ((blP s p2))) ?_ rfl ?_ (mk_field (by omega) (by omega) hO1 hO2) hK ?_
    · have hq63 : pSign s 63 q2 = none := by
        unfold pSign
        rw [← hq2,if_neg h]
      rw [pField,hr,PR.and_ok,← hq,hr2,PR.and_ok,hq63]
      have hb2 : blP s (blP s p2) = blP s p2 := by unfold blP; exact runP_idem _ _ _
      show PR.ok _ q2 = PR.ok _ (blP s (blP s p2))
      rw [hb2,hq2]
    · exact hle2
    · exact Sy.left (A := [_,_,_]) hw' (fun b hb => by
        simp only [List.mem_cons,List.mem_nil_iff,or_false] at hb
        rcases hb with rfl | rfl | rfl
        · exact hb2
        · exact hb3
        · exact hb6)
theorem fields_ok : ∀ d,FieldOK d
  | 0 => fun wb w rb s p M hQ hd => by omega
  | d + 1 => field_step d (typeR_step d (one_step d (fields_ok d)) (many_step d (fields_ok d)))
theorem many_ok (d : Nat) : ManyOK d := many_step d (fields_ok d)
end Go.Proofs.YtdmdgkpjjpijdaaGreatDoor
namespace Go.Proofs.YtdmdgkpjjpijdaaGreatDoor
open Go Go.K
set_option maxRecDepth 100000
set_option linter.unusedVariables false
set_option linter.unusedSimpArgs false
structure PS where
  l : List Fld
  nt : List NoteT
  e : Int
  at_ : Nat
def parseP (t : List UInt8) : PS :=
  if 65536 < t.length then ⟨[],[],4,65536⟩ else match pSchema t with
  | .no q => ⟨[],[],8,q⟩
  | .ok x _ => if (checkP (x.1.map (·.1)) x.2).1 = 0 then ⟨x.1.map (·.1),x.2,0,0⟩ else ⟨[],[],(checkP (x.1.map (·.1)) x.2).1,foundP (x.1.map (·.2)) (checkP (x.1.map (·.1)) x.2).2.1 0⟩
structure PF where
  f : Fld
  e : Int
  at_ : Nat
def noF : Fld := .mk [] false 0 0 0 0 []
def parseF (t : List UInt8) : PF :=
  if 65536 < t.length then ⟨noF,4,65536⟩ else match pOne t with
  | .no q => ⟨noF,8,q⟩
  | .ok x _ => if (checkP [x.1] []).1 = 0 then ⟨x.1,0,0⟩ else ⟨noF,(checkP [x.1] []).1,foundP [x.2] (checkP [x.1] []).2.1 0⟩
theorem parse_may {t : List UInt8} (h : (parseP t).e = 0) : mayP (parseP t).l (parseP t).nt = true ∧ (parseP t).at_ = 0 := by
  unfold parseP at h ⊢
  split
  · rename_i h1; rw [if_pos h1] at h; cases h
  rename_i h1
  rw [if_neg h1] at h
  split
  · rename_i q h2; rw [h2] at h; cases h
  rename_i x q h2
  rw [h2] at h
  simp only at h ⊢
  split
  · rename_i h3
    refine ⟨?_,rfl⟩
    unfold mayP
    simpa using h3
  · rename_i h3
    rw [if_neg h3] at h
    exact absurd h h3
end Go.Proofs.YtdmdgkpjjpijdaaGreatDoor
namespace Go.Proofs.YtdmdgkpjjpijdaaGreatDoor
open Go Go.K
set_option maxRecDepth 100000
set_option linter.unusedVariables false
set_option linter.unusedSimpArgs false
set_option maxHeartbeats 4000000
def HasK (w : World) (K : Own) : Prop := ∀ p ∈ K,w.heap[p.1]? = some p.2
theorem HasK.of_sy {wb w : World} {K L : Own} (h : Sy wb L w) (hK : ∀ p ∈ K,p ∈ L) : HasK w K := fun p hp => h.own p.1 p.2 (hK p hp)
def NatsAt (w : World) (a : Option Addr) (p : List Nat) : Prop := p = [] ∨ ∃ b off,a = some ⟨b,off,none⟩ ∧ ∀ i n : Nat,p[i]? = some n → At w b (off + i) [i64 n]
structure FdI (w0 : World) (K : Own) (l0 : List Sp) (pa : Option Addr) (p : List Nat) (pc : Nat) (i : Nat) (wb : World) (e : Env) (ds : List Deferred) (L : Own) : Prop where
  hw : wb = w0
  hds : ds = []
  hL : L = []
  o : ∃ (l : List Sp) (K' : Own) (a : Option Addr) (c : Nat) (q : Nat),(∀ x ∈ K',x ∈ K) ∧ OwPS l K' a c ∧ e 0 = .slice a l.length c ∧ okW l (p.drop i) ∧ e 5 = i64 q ∧ foundP l0 p 0 = foundP l (p.drop i) q
  il : i ≤ p.length
  h8 : e 8 = .slice pa p.length pc
  h9 : e 9 = i64 p.length
  h10 : e 10 = i64 i
theorem found_walk (w : World) (K : Own) (hK : HasK w K) (l : List Sp) (a : Option Addr) (c : Nat) (hO : OwPS l K a c) (pa : Option Addr) (p : List Nat) (pc : Nat) (hp : NatsAt w pa p) (hpl : p.length ≤ 9223372036854775807) (hok : okW l p) :
    Calls Tryz.prog 40 #[.slice a l.length c,.slice pa p.length pc] w (Rets w (Is (i64 (foundP l p 0)))) := by
  refine enterB (args := [.slice a l.length c,.slice pa p.length pc]) Tryz.func40 rfl Tryz.ntmps40 (congrArg Array.toList Tryz.results40) (by kernel_rfl) (by simp) (Sy.refl w) ?_
  simp (disch:=omega) only[push_cast,Nat.reduceEqDiff]
  rw [V_block]
  simp (disch:=omega) only[push_cast,Nat.reduceEqDiff]
  refine loopW (G := Nat) (FdI w K l pa p pc) (fun i => p.length - i) 0 _ (fun w hw => hw) (by kernel_rfl) ⟨rfl,rfl,rfl,⟨l,K,a,c,0,fun x hx => hx,hO,rfl,by simpa using hok,rfl,by simp⟩,by omega,rfl,rfl,rfl⟩ ?_
  rintro i wb e ds L ⟨rfl,rfl,rfl,⟨l',K',a',c',q,hK',hO',h0,hok',h5,hf⟩,hil,h8,h9,h10⟩
  simp (disch:=omega) only[push_cast,Nat.reduceEqDiff,h0,h5,h8,h9,h10]
  rw [V_cond]
  simp (disch:=omega) only[push_cast,Nat.reduceEqDiff,h0,h5,h8,h9,h10]
  refine condX_d (fun hlt => ?_) (fun hge => ?_)
  · have hlt' : i < p.length := by omega
    obtain ⟨k,hk⟩ : ∃ k,p[i]? = some k := ⟨_,List.getElem?_eq_getElem hlt'⟩
    have hd : p.drop i = k :: p.drop (i + 1) := by
      rw [List.drop_eq_getElem_cons hlt']
      rw [List.getElem?_eq_getElem hlt'] at hk
      cases hk
      rfl
    rw [hd] at hok' hf
    obtain ⟨s,hs,hok2⟩ := hok'
    have hf2 : foundP l p 0 = foundP s.kids (p.drop (i + 1)) s.at_ := by rw [hf,foundP,hs]
    have hkl : k < l'.length := (List.getElem?_eq_some_iff.1 hs).1
    rcases hp with h0p | ⟨pb,poff,rfl,hpa⟩
    · rw [h0p] at hlt'
      exact absurd hlt' (by simp)
    have hpk := hpa i k hk
    obtain ⟨rfl,rfl,rfl,rfl⟩ | ⟨b,cs,K2,rfl,rfl,hc1,hc2,hkk⟩ := (OwPS_iff _ _ _ _).1 hO'
    · simp at hs
    obtain ⟨K3,a3,c3,hK3,hO3,hv0,hv1⟩ := OwPK.get k hkk hs
    have hlen : (cs.take (l'.length * 2)).length = l'.length * 2 := hkk.len
    have hv0' : cs[k * 2]? = some (i64 s.at_) := by
      rw [List.getElem?_take_of_lt (by omega)] at hv0
      exact hv0
    have hv1' : cs[k * 2 + 1]? = some (.slice a3 s.kids.length c3) := by
      rw [List.getElem?_take_of_lt (by omega)] at hv1
      exact hv1
    have hb := hK _ (hK' _ (.head _))
    have at1 : ∀ (j : Nat) (v : Value),cs[j]? = some v → At wb b j [v] := fun j v hj => ⟨_,_,_,hb,by
      obtain ⟨g1,g2⟩ := List.getElem?_eq_some_iff.1 hj
      simp only [List.length_cons,List.length_nil]
      rw [List.drop_eq_getElem_cons (by simpa using g1)]
      simp [g2]⟩
    simp (disch:=omega) only[push_cast,Nat.reduceEqDiff,h0,h5,h8,h9,h10]
    rw [V_block]
    simp (disch:=omega) only[push_cast,Nat.reduceEqDiff,h0,h5,h8,h9,h10]
    refine ldF Shp.eq (by simpa using hpk) (by simp) ?_
    simp (disch:=omega) only[push_cast,Nat.reduceEqDiff,h0,h5,h8,h9,h10,Int.toNat_natCast]
    refine ldF Shp.eq (by simpa [Nat.mul_comm] using at1 _ _ hv0') (by simp) ?_
    simp (disch:=omega) only[push_cast,Nat.reduceEqDiff,h0,h5,h8,h9,h10,Int.toNat_natCast]
    refine ldF Shp.eq (by simpa [Nat.mul_comm] using at1 _ _ hv1') (by simp) ?_
    simp (disch:=omega) only[push_cast,Nat.reduceEqDiff,h0,h5,h8,h9,h10,Int.toNat_natCast]
    refine ⟨i + 1,_,fun w hw => hw,⟨rfl,rfl,rfl,⟨s.kids,K3,a3,c3,s.at_,fun x hx => hK' _ (.tail _ (hK3 x hx)),hO3.toS,rfl,hok2,rfl,hf2⟩,by omega,h8,h9,rfl⟩,by omega⟩
  · obtain rfl : i = p.length := by omega
    rw [List.drop_length,foundP] at hf
    simp (disch:=omega) only[push_cast,Nat.reduceEqDiff,h0,h5,h8,h9,h10]
    rw [hf]
    exact fun w' hw' => ⟨_,rfl,hw',rfl⟩
end Go.Proofs.YtdmdgkpjjpijdaaGreatDoor
