/- YtdmdgkpjjpijdaaGreatDoor: walks, part 193: the reference's Parse. -/
import Derived.Test.YtdmdgkpjjpijdaaGreatDoorW191
import Derived.Test.YtdmdgkpjjpijdaaGreatDoorW192
import Derived.Test.YtdmdgkpjjpijdaaGreatDoorW175
import Derived.Test.YtdmdgkpjjpijdaaGreatDoorW176
namespace Go.Proofs.YtdmdgkpjjpijdaaGreatDoor
open Go Go.K
set_option maxRecDepth 100000
set_option linter.unusedVariables false
set_option linter.unusedSimpArgs false
set_option maxHeartbeats 16000000
def tailN (s : List UInt8) (m : Nat) (q : Nat) : PR (List NoteQ) := match pSign s 44 q with
  | none => .ok [] q
  | some r2 => pNotes s m r2
theorem pNotes_tail (s : List UInt8) (m q : Nat) : pNotes s (m + 1) q = (pQuote s q).and fun k r => (pQuote s r).and fun x r => (tailN s m r).and fun l r3 => .ok ((k,x) :: l) r3 := by
  rw [pNotes]
  congr 1
  funext k r
  congr 1
  funext x r
  unfold tailN
  cases pSign s 44 r with
  | none => rfl
  | some r2 => rfl
def LnR (s : List UInt8) (ft0 : Int) (T : PR (List NoteQ)) (p : Nat) (ft : Int) (l : List NoteQ) : Prop :=
  (ft0 = -1 ∧ ft = -1 ∧ ∃ (m : Nat),s.length - p < m ∧ T = (tailN s m (blP s p)).and fun r q => .ok (l ++ r) q) ∨ (0 ≤ ft ∧ (ft0 = -1 → ∃ q : Nat,T = .no q ∧ ft = q) ∧ (0 ≤ ft0 → ft = ft0))
theorem LnR.step {s : List UInt8} {ft0 ft ft1 ft2 : Int} {T : PR (List NoteQ)} {l : List NoteQ} {m p p1 p2 : Nat} {k x : List UInt8} (hm : s.length - p < m + 1) (h0 : ft0 = -1 → ft = -1 ∧ T = (pNotes s (m + 1) (blP s p)).and fun r q => .ok (l ++ r) q) (hft : 0 ≤ ft0 → ft = ft0) (hl : ft0 = -1 ∨ 0 ≤ ft0)
    (h1 : StepR s ft p (pQuote s (blP s p)) (fun y => k = y) p1 ft1) (h2 : StepR s ft1 p1 (pQuote s (blP s p1)) (fun y => x = y) p2 ft2) (hlt : ft2 = -1 → p < p2) : LnR s ft0 T p2 ft2 (l ++ [(k,x)]) := by
  have hbad : ∀ q : Nat,(pNotes s (m + 1) (blP s p)) = .no q → ft0 = -1 → T = .no q := fun q hq h => by rw [(h0 h).2,hq,PR.and_no]
  obtain ⟨a1,a2,⟨a3,a4,y,a5,rfl⟩ | ⟨a3,a4,a5⟩⟩ := h1
  · have hf0 : ft0 = -1 := by
      rcases hl with h | h
      · exact h
      · have := hft h; omega
    obtain ⟨b1,b2,⟨b3,b4,z,b5,rfl⟩ | ⟨b3,b4,b5⟩⟩ := h2
    · have hlt' := hlt b4
      refine .inl ⟨hf0,b4,m,by omega,?_⟩
      rw [(h0 hf0).2,pNotes_tail,a5,PR.and_ok,b5,PR.and_ok,PR.and_and]
      congr 1
      funext r q
      simp [PR.and]
    · refine .inr ⟨b3,fun h => ?_,fun h => by omega⟩
      obtain ⟨q,e1,e2⟩ := b4 a4
      exact ⟨q,hbad q (by rw [pNotes_tail,a5,PR.and_ok,e1,PR.and_no]) h,e2⟩
  · have hb := h2.bad a3
    refine .inr ⟨by omega,fun h => ?_,fun h => ?_⟩
    · obtain ⟨q,e1,e2⟩ := a4 (h0 h).1
      exact ⟨q,hbad q (by rw [pNotes_tail,e1,PR.and_no]) h,by omega⟩
    · have := hft h
      have := a5 (by omega)
      omega
theorem LnR.done {s : List UInt8} {ft0 ft : Int} {T : PR (List NoteQ)} {p0 p : Nat} {l : List NoteQ} (h : LnR s ft0 T p ft l) (hn : ¬ (ft = -1 ∧ s[blP s p]? = some 44)) (h0 : p0 ≤ p) (hp : p ≤ s.length) : StepR s ft0 p0 T (fun y => l = y) p ft := by
  rcases h with ⟨h1,h2,m,_,h5⟩ | ⟨h1,h2,h3⟩
  · refine ⟨h0,hp,.inl ⟨h1,h2,l,?_,rfl⟩⟩
    have ht : tailN s m (blP s p) = .ok [] (blP s p) := by
      unfold tailN pSign
      rw [if_neg (fun h => hn ⟨h2,h⟩)]
    rw [h5,ht,PR.and_ok,List.append_nil]
  · exact ⟨h0,hp,.inr ⟨h1,h2,h3⟩⟩
theorem LnR.two {s : List UInt8} {ft0 ft : Int} {T : PR (List NoteQ)} {p : Nat} {l : List NoteQ} (h : LnR s ft0 T p ft l) : ft = -1 ∨ 0 ≤ ft := by
  rcases h with ⟨_,h,_⟩ | ⟨h,_⟩
  · exact .inl h
  · exact .inr h
theorem quote_lt {s : List UInt8} {ft : Int} {p : Nat} {ok : List UInt8 → Prop} {p' : Nat} {ft' : Int} (hp : p ≤ s.length) (h : StepR s ft p (pQuote s (blP s p)) ok p' ft') (hf : ft' = -1) : p < p' := by
  obtain ⟨h1,h2,⟨h3,h4,x,h5,h6⟩ | ⟨h3,_⟩⟩ := h
  · unfold pQuote at h5
    split at h5
    · rename_i h34
      have hlt := (List.getElem?_eq_some_iff.1 h34).1
      obtain ⟨y,r,e1,e2⟩ := PR.and_eq_ok h5
      have g1 := pRest_le _ _ _ _ (by omega) e1
      have e3 : blP s r = blP s p' := (PR.ok.inj e2).2
      have g2 : r ≤ blP s r := runP_ge _ _ _
      have g3 : p ≤ blP s p := runP_ge _ _ _
      rcases Nat.lt_or_ge p p' with h | h
      · exact h
      · have := blP_mono (s := s) h
        omega
    · cases h5
  · omega
theorem fin_of {t : List UInt8} {l : List Fld} {N : List Nat} {nt : List NoteQ} {p1 p2 p3 : Nat} {ft1 ft2 ft3 : Int} (h1 : StepR t (-1) 0 (pHead t (blP t 0)) (fun ys => l = ys.map (·.1) ∧ N = preL (ys.map (·.2))) p1 ft1) (h2 : StepR t ft1 p1 (pTail t (blP t p1)) (fun y => nt = y) p2 ft2) (h3 : StepR t ft2 p2 (pEnd t () (blP t p2)) (fun _ => True) p3 ft3) : (0 ≤ ft3 ∧ ∃ q : Nat,pSchema t = .no q ∧ ft3 = q) ∨ (ft3 = -1 ∧ ∃ (xs : List Fz) (r r1 r2 : Nat),pSchema t = .ok (xs,nt) r ∧ l = xs.map (·.1) ∧ N = preL (xs.map (·.2)) ∧ pHead t (blP t 0) = .ok xs r1 ∧ pTail t r1 = .ok nt r2) := by
  obtain ⟨_,_,⟨_,a2,xs,a3,a4,a5⟩ | ⟨a1,a2,_⟩⟩ := h1
  · subst a2
    obtain ⟨_,_,⟨_,b2,y,b3,b4⟩ | ⟨b1,b2,_⟩⟩ := h2
    · subst b2
      subst b4
      obtain ⟨_,_,⟨_,c2,u,c3,_⟩ | ⟨c1,c2,_⟩⟩ := h3
      · exact .inr ⟨c2,xs,_,_,_,by rw [pSchema,a3,PR.and_ok,b3,PR.and_ok]; exact pEnd_ok c3,a4,a5,a3,b3⟩
      · obtain ⟨q,e1,e2⟩ := c2 rfl
        exact .inl ⟨c1,q,by rw [pSchema,a3,PR.and_ok,b3,PR.and_ok]; exact pEnd_no e1,e2⟩
    · obtain ⟨q,e1,e2⟩ := b2 rfl
      have hb := h3.bad b1
      exact .inl ⟨by omega,q,by rw [pSchema,a3,PR.and_ok,e1,PR.and_no],by omega⟩
  · obtain ⟨q,e1,e2⟩ := a2 rfl
    have hb := h2.bad a1
    have hb2 := h3.bad (by omega)
    exact .inl ⟨by omega,q,by rw [pSchema,e1,PR.and_no],by omega⟩
theorem okW_len : ∀ (p : List Nat) (l : List Fld) (k : List Sp),LikeL l k → okW k p → p.length ≤ cL l
  | [],_,_,_,_ => Nat.zero_le _
  | i :: p,l,k,hl,h => by
    rw [okW] at h
    obtain ⟨s,hs,hk⟩ := h
    obtain ⟨f,hf,hlk⟩ := like_back hl hs
    have h1 := cF_le hf
    rw [cF_eq] at h1
    have h2 := okW_len p f.sub s.kids ((Like_iff f s).1 hlk) hk
    rw [List.length_cons]
    omega
theorem natsAt_rowO {w wb wc : World} {L M : Own} {pa : Option Addr} {pc : Nat} {l : List Nat} (hw : Sy wb L w) (hM : ∀ p ∈ M,p ∈ L) (h : RowO wc 3 1 M [] (.slice pa l.length pc) l.length (ints l)) : NatsAt w pa l := by
  obtain ⟨_,⟨h1,h2,_⟩ | ⟨b,cap,cs,h1,h2,h3,h4,h5,h6,h7⟩⟩ := h
  · exact .inl (List.eq_nil_of_length_eq_zero h2)
  · injection h1 with he1 he2 he3
    subst he1; subst he3; subst h2
    refine .inr ⟨b,0,rfl,fun i n hi => At.of_own hw (hM _ (.head _)) ?_⟩
    have h8 : (ints l)[i]? = some (i64 n) := by
      simp only [ints,List.getElem?_map,hi]
      rfl
    rw [← h7,List.getElem?_take] at h8
    split at h8
    · rename_i hlt
      simp only [List.length_singleton]
      rw [Nat.zero_add,List.take_one,List.head?_drop,h8]
      rfl
    · cases h8
structure Pr1 (w0 : World) (b2 b5 b6 b7 : Nat) (L0 : Own) (wb : World) (e : Env) (ds : List Deferred) (L : Own) : Prop where
  hw : wb = w0
  hds : ds = []
  h2 : e 2 = .pointer (some ⟨b2,0,none⟩)
  h5 : e 5 = .pointer (some ⟨b5,0,none⟩)
  h6 : e 6 = .pointer (some ⟨b6,0,none⟩)
  h7 : e 7 = .pointer (some ⟨b7,0,none⟩)
  hL : L = L0
abbrev sNil : Value := .slice none 0 0
structure Pr2 (w0 : World) (t : List UInt8) (b2 b5 b6 : Nat) (wb : World) (e : Env) (ds : List Deferred) (L : Own) : Prop where
  hw : wb = w0
  hds : ds = []
  h2 : e 2 = .pointer (some ⟨b2,0,none⟩)
  h5 : e 5 = .pointer (some ⟨b5,0,none⟩)
  h6 : e 6 = .pointer (some ⟨b6,0,none⟩)
  o : ∃ (l : List Fld) (a : Option Addr) (c : Nat) (K : Own) (p : Nat) (ft : Int) (N : List Nat) (nv : Value) (RN : Own),OwS l K a c ∧ RowO w0 3 1 RN [] nv N.length (ints N) ∧ N.length ≤ 65536 ∧ (∀ b ∈ K,w0.heap.size ≤ b.1) ∧ StepR t (-1) 0 (pHead t (blP t 0)) (fun ys => l = ys.map (·.1) ∧ N = preL (ys.map (·.2))) p ft ∧
    ∀ w',Sy w0 L w' → Sy w0 (oRr b5 t p ft nv :: oSc b6 (.slice a l.length c) sNil :: oSc b2 sNil sNil :: (RN ++ K)) w'
structure Pr3 (w0 : World) (t : List UInt8) (b2 b5 b6 : Nat) (wb : World) (e : Env) (ds : List Deferred) (L : Own) : Prop where
  hw : wb = w0
  hds : ds = []
  h2 : e 2 = .pointer (some ⟨b2,0,none⟩)
  h5 : e 5 = .pointer (some ⟨b5,0,none⟩)
  h6 : e 6 = .pointer (some ⟨b6,0,none⟩)
  o : ∃ (l : List Fld) (a : Option Addr) (c : Nat) (K : Own) (p1 : Nat) (ft1 : Int) (N : List Nat) (nv : Value) (RN : Own) (nt : List NoteQ) (yv : Value) (R : Own) (p : Nat) (ft : Int),OwS l K a c ∧ RowO w0 3 1 RN [] nv N.length (ints N) ∧ N.length ≤ 65536 ∧ (∀ b ∈ K,w0.heap.size ≤ b.1) ∧ RowO w0 90 2 R [] yv nt.length (noteCs nt) ∧ StepR t (-1) 0 (pHead t (blP t 0)) (fun ys => l = ys.map (·.1) ∧ N = preL (ys.map (·.2))) p1 ft1 ∧ StepR t ft1 p1 (pTail t (blP t p1)) (fun y => nt = y) p ft ∧
    ∀ w',Sy w0 L w' → Sy w0 (oRr b5 t p ft nv :: oSc b6 (.slice a l.length c) yv :: oSc b2 sNil sNil :: (RN ++ (K ++ R))) w'
structure Pr4 (w0 : World) (t : List UInt8) (b2 b5 b6 : Nat) (x : Value) (nv : Value) (A : Own) (T : PR (List NoteQ)) (p0 : Nat) (p : Nat) (wb : World) (e : Env) (ds : List Deferred) (L : Own) : Prop where
  hw : wb = w0
  hds : ds = []
  h2 : e 2 = .pointer (some ⟨b2,0,none⟩)
  h5 : e 5 = .pointer (some ⟨b5,0,none⟩)
  h6 : e 6 = .pointer (some ⟨b6,0,none⟩)
  hp0 : p0 ≤ p
  hp : p ≤ t.length
  o : ∃ (nt : List NoteQ) (ya : Option Addr) (yc : Nat) (R : Own) (ft : Int),RowO w0 90 2 R [] (.slice ya nt.length yc) nt.length (noteCs nt) ∧ nt.length ≤ p + 1 ∧ LnR t (-1) T p ft nt ∧ L = oRr b5 t p ft nv :: oSc b6 x (.slice ya nt.length yc) :: oSc b2 sNil sNil :: (A ++ R)
structure NoI (w0 : World) (t : List UInt8) (b2 b5 b6 : Nat) (x nv y : Value) (A R : Own) (nt : List NoteQ) (P : Nat) (FT : Int) (t0 t1 t2 t3 t4 t5 t6 t7 t8 t9 : Nat) (D : Nat → Bool) (e : Env) (ds : List Deferred) (L : Own) : Prop where
  hds : ds = []
  h2 : e 2 = .pointer (some ⟨b2,0,none⟩)
  h5 : e 5 = .pointer (some ⟨b5,0,none⟩)
  h6 : e 6 = .pointer (some ⟨b6,0,none⟩)
  ht0 : e t0 = .pointer (some ⟨b6,1,none⟩)
  ht2 : e t2 = .pointer (some ⟨b5,0,none⟩)
  ht4 : e t4 = .pointer (some ⟨b5,0,none⟩)
  d1 : D 1 = true → e t1 = y
  m5 : D 5 = true → D 3 = true
  m6 : D 6 = true → D 5 = true
  m7 : D 7 = true → D 6 = true
  m8 : D 8 = true → D 7 = true ∧ D 1 = true
  m9 : D 9 = true → D 8 = true
  m10 : D 10 = true → D 9 = true
  o : ∃ (k1 k2 : List UInt8) (p3 : Nat) (ft3 : Int) (p4 : Nat) (ft4 : Int) (b9 : Nat) (za : Option Addr) (zc : Nat) (R5 : Own),
    (D 3 = true → e t3 = str k1 ∧ StepR t FT P (pQuote t (blP t P)) (fun z => k1 = z) p3 ft3) ∧ (D 5 = true → e t5 = str k2 ∧ StepR t ft3 p3 (pQuote t (blP t p3)) (fun z => k2 = z) p4 ft4) ∧ (D 6 = true → e t6 = .agg #[str k1,str k2]) ∧ (D 7 = true → e t7 = .slice (some ⟨b9,0,none⟩) 1 1 ∧ w0.heap.size ≤ b9) ∧
    (D 8 = true → e t8 = .slice za (nt.length + 1) zc ∧ RowO w0 90 2 R5 [] (.slice za (nt.length + 1) zc) (nt.length + 1) (noteCs nt ++ [str k1,str k2])) ∧ (D 9 = true → e t9 = .pointer (some ⟨b6,1,none⟩)) ∧
    L = oRr b5 t (if D 5 = true then (p4 : Int) else if D 3 = true then (p3 : Int) else (P : Int)) (if D 5 = true then ft4 else if D 3 = true then ft3 else FT) nv :: oSc b6 x (if D 10 = true then .slice za (nt.length + 1) zc else y) :: oSc b2 sNil sNil :: (A ++ ((if D 8 = true then R5 else R) ++ (if D 7 = true then (if D 8 = true then [] else [(b9,Obj.cells #[str k1,str k2] 90 (0,0))]) else [])))
theorem bf {a b : Bool} (h : a = true → b = true) (hb : b = false) : a = false := by
  cases a with
  | true => rw [h rfl] at hb; cases hb
  | false => rfl
theorem parseR_walk (w : World) (t : List UInt8) (ht : t.length ≤ 9223372036854775807) : Calls Tryz.prog 7 #[str t] w (RetsN w (PsV (parseP t))) := by
  refine enterT (args := [str t]) Tryz.func7 rfl Tryz.ntmps7 (congrArg Array.toList Tryz.results7) (by kernel_rfl) (by simp) (Sy.refl w) ?_
  simp (disch:=omega) only[push_cast,Nat.reduceEqDiff]
  refine newI (fun b2 hb2 hn2 => ?_)
  simp (disch:=omega) only[push_cast,Nat.reduceEqDiff]
  rw [V_cond]
  simp (disch:=omega) only[push_cast,Nat.reduceEqDiff]
  refine condX_d (fun hbig => ?_) (fun hsm => ?_)
  · simp (disch:=omega) only[push_cast,Nat.reduceEqDiff]
    refine storeX 0 rfl Siz.eq rfl rfl (by simp [Value.oneCell']) (by simp) ?_
    simp (disch:=omega) only[push_cast,Nat.reduceEqDiff]
    refine loadX_agg Shp.eq mem0 rfl rfl ?_
    simp (disch:=omega) only[push_cast,Nat.reduceEqDiff]
    have hr : parseP t = ⟨[],[],4,65536⟩ := by unfold parseP; rw [if_pos (by omega)]
    rw [hr]
    exact fun w' hw' => ⟨_,[],rfl,hw'.end (fun b hb => by rw [List.mem_singleton.1 hb]; exact hb2),by simp,none,0,none,0,[],[],[],rfl,rfl,own_nil,ownN_nil⟩
  have ht2 : t.length ≤ 65536 := by omega
  simp (disch:=omega) only[push_cast,Nat.reduceEqDiff]
  refine newI (fun b5 hb5 hn5 => ?_)
  simp (disch:=omega) only[push_cast,Nat.reduceEqDiff]
  refine newI (fun b6 hb6 hn6 => ?_)
  simp (disch:=omega) only[push_cast,Nat.reduceEqDiff]
  refine storeX 0 rfl Siz.eq rfl rfl (by simp [Value.oneCell']) (by simp) ?_
  simp (disch:=omega) only[push_cast,Nat.reduceEqDiff]
  have hq0 : blP t 0 ≤ t.length := runP_le (Nat.zero_le _)
  have hk0 := tok_end t 0 (Nat.zero_le _)
  have hk124 := tok_sign (s := t) (p := 0) (c := 124) (by decide)
  have hsee : ∀ w',Sy w (oSc b6 sNil sNil :: oRr b5 t 0 (-1) sNil :: [oSc b2 sNil sNil]) w' → Calls Tryz.prog 41 #[.pointer (some ⟨b5,0,none⟩)] w' (Rets w' (Is (.agg (tokP t 0).cells))) := fun w' hw' => seeR_walk w' b5 t 0 ht2 (Nat.zero_le _) (At.of_own hw' mem1 rfl)
  generalize tokP t 0 = tk at hk0 hk124 hsee
  refine callV en_41 (callX_is hsee ?_)
  simp (disch:=omega) only[push_cast,Nat.reduceEqDiff]
  refine newI (fun b7 hb7 hn7 => ?_)
  simp (disch:=omega) only[push_cast,Nat.reduceEqDiff]
  refine storeX 0 rfl Siz.eq rfl rfl (by simp [Value.oneCell']) (by simp) ?_
  refine cutL (Pr1 w b2 b5 b6 b7 (oTk b7 tk.k tk.tx tk.at_ tk.nx tk.ft :: oSc b6 sNil sNil :: oRr b5 t 0 (-1) sNil :: [oSc b2 sNil sNil])) ?_ ?_
  · simp (disch:=omega) only[push_cast,Nat.reduceEqDiff]
    exact ⟨rfl,rfl,rfl,rfl,rfl,rfl,rfl⟩
  rintro wb e ds L ⟨rfl,rfl,h2,h5,h6,h7,rfl⟩
  rw [V_seq]
  refine cutV (Pr2 wb t b2 b5 b6) ?_ ?_
  · have hM0 : ∀ b ∈ [oSc b6 sNil sNil,oSc b2 sNil sNil],wb.heap.size ≤ b.1 := fun b hb => by
      simp only [List.mem_cons,List.mem_nil_iff,or_false] at hb
      rcases hb with rfl | rfl
      · exact hb6
      · exact hb2
    simp (disch:=omega) only[push_cast,Nat.reduceEqDiff,h2,h5,h6,h7]
    refine ldOne Shp.eq mem0 rfl ?_
    simp (disch:=omega) only[push_cast,Nat.reduceEqDiff,h2,h5,h6,h7]
    refine guardX_t rfl (fun hk => ?_) (fun hk => ?_)
    rotate_left
    · have hno : ¬ (blP t 0 < t.length ∧ t[blP t 0]? ≠ some 124) := fun h => by have := hk0.1 (by omega); omega
      simp (disch:=omega) only[push_cast,Nat.reduceEqDiff,h2,h5,h6,h7]
      rw [V_cond]
      simp (disch:=omega) only[push_cast,Nat.reduceEqDiff,h2,h5,h6,h7]
      have hst : StepR t (-1) 0 (pHead t (blP t 0)) (fun ys => ([] : List Fld) = ys.map (·.1) ∧ ([] : List Nat) = preL (ys.map (·.2))) 0 (-1) := ⟨Nat.le_refl _,Nat.zero_le _,.inl ⟨rfl,rfl,[],by rw [pHead,if_neg hno],rfl,by simp [preL]⟩⟩
      refine ⟨rfl,rfl,h2,h5,h6,[],none,0,[],0,-1,[],sNil,[],own_nil,⟨rfl,.inl ⟨rfl,rfl,rfl⟩⟩,Nat.zero_le _,by simp,hst,fun w' hw' => ?_⟩
      exact (Sy.left (A := [oTk b7 tk.k tk.tx tk.at_ tk.nx tk.ft]) hw' (fun b hb => by rw [List.mem_singleton.1 hb]; exact hb7)).perm (List.Perm.swap _ _ _)
    have hlt0 : blP t 0 < t.length := by
      rcases Nat.lt_or_ge (blP t 0) t.length with h | h
      · exact h
      · exact absurd (hk0.2 (by omega)) (by omega)
    simp (disch:=omega) only[push_cast,Nat.reduceEqDiff,h2,h5,h6,h7]
    refine ldOne Shp.eq mem0 rfl ?_
    simp (disch:=omega) only[push_cast,Nat.reduceEqDiff,h2,h5,h6,h7]
    refine guardX_t rfl (fun hk2 => ?_) (fun hk2 => ?_)
    rotate_left
    · have hyes : blP t 0 < t.length ∧ t[blP t 0]? ≠ some 124 := ⟨hlt0,fun h => hk2 (by have := (hk124.2 h).1; omega)⟩
      simp (disch:=omega) only[push_cast,Nat.reduceEqDiff,h2,h5,h6,h7,Bool.not_false]
      rw [V_cond]
      simp (disch:=omega) only[push_cast,Nat.reduceEqDiff,h2,h5,h6,h7,Bool.not_false]
      refine callV en_42 (callX_weak (L' := oRr b5 t 0 (-1) sNil :: (([] : Own) ++ [oSc b6 sNil sNil,oSc b2 sNil sNil])) (fun w hw => Sy.left (A := [oTk b7 tk.k tk.tx tk.at_ tk.nx tk.ft]) (hw.perm (permC (fun f => by simp only [wt_append,wt_cons,wt_nil] <;> omega) : List.Perm (oTk b7 tk.k tk.tx tk.at_ tk.nx tk.ft :: oSc b6 sNil sNil :: oRr b5 t 0 (-1) sNil :: [oSc b2 sNil sNil]) ([oTk b7 tk.k tk.tx tk.at_ tk.nx tk.ft] ++ (oRr b5 t 0 (-1) sNil :: (([] : Own) ++ [oSc b6 sNil sNil,oSc b2 sNil sNil]))))) (fun b hb => by rw [List.mem_singleton.1 hb]; exact hb7)) (callX_own (S := ListV0 wb b5 t 0 (-1) [] [oSc b6 sNil sNil,oSc b2 sNil sNil] (manyP t (pField t (t.length + 1)) false (blP t 0))) (fun w' hw' => manyRR_all (t.length + 1) wb w' b5 t 0 (-1) [] sNil [] _ false ⟨ht2,Nat.zero_le _,.inl rfl,hb5,hM0,⟨rfl,.inl ⟨rfl,rfl,rfl⟩⟩,Nat.zero_le _,hw'⟩ (by omega)) (fun v9 L9 hv9 => ?_)))
      (refine Exists.elim (hv9) (fun l hz => Exists.elim hz (fun a hz => Exists.elim hz (fun c hz => Exists.elim hz (fun K hz => Exists.elim hz (fun p hz => Exists.elim hz (fun ft hz => Exists.elim hz (fun N hz => Exists.elim hz (fun nv hz => Exists.elim hz (fun RN hz => ?_))))))))); have ez := hz.1; subst ez; have hO := hz.2.1; have hN := hz.2.2.1; have hNp := hz.2.2.2.1; have hK := hz.2.2.2.2.1; have hm := hz.2.2.2.2.2.1; have ez := hz.2.2.2.2.2.2; subst ez; clear hz)
      simp (disch:=omega) only[push_cast,Nat.reduceEqDiff,h2,h5,h6,h7]
      refine storeX_weak (L' := oSc b6 sNil sNil :: oRr b5 t p ft nv :: oSc b2 sNil sNil :: (RN ++ K)) (fun w hw => hw.perm (permC (fun f => by simp only [wt_append,wt_cons,wt_nil] <;> omega) : List.Perm (oRr b5 t p ft nv :: (RN ++ (K ++ [oSc b6 sNil sNil,oSc b2 sNil sNil]))) (oSc b6 sNil sNil :: oRr b5 t p ft nv :: oSc b2 sNil sNil :: (RN ++ K)))) (storeX 0 rfl Siz.eq rfl rfl (by simp [Value.oneCell']) (by simp) ?_)
      simp (disch:=omega) only[push_cast,Nat.reduceEqDiff,h2,h5,h6,h7]
      have hst : StepR t (-1) 0 (pHead t (blP t 0)) (fun ys => l = ys.map (·.1) ∧ N = preL (ys.map (·.2))) p ft := by
        rw [show pHead t (blP t 0) = manyP t (pField t (t.length + 1)) false (blP t 0) from by rw [pHead,if_pos hyes,pFields]; unfold manyP; rw [if_neg (by simp)]]
        exact hm.of (fun _ x hx => ⟨hx.1,by rw [hx.2,List.nil_append]⟩)
      exact ⟨rfl,rfl,h2,h5,h6,l,a,c,K,p,ft,N,nv,RN,hO,hN,by have := hm.2.1; omega,hK,hst,fun w' hw' => hw'.perm (List.Perm.swap _ _ _)⟩
    simp (disch:=omega) only[push_cast,Nat.reduceEqDiff,h2,h5,h6,h7]
    refine ldOne Shp.eq mem0 rfl ?_
    simp (disch:=omega) only[push_cast,Nat.reduceEqDiff,h2,h5,h6,h7]
    rw [V_cond]
    simp (disch:=omega) only[push_cast,Nat.reduceEqDiff,h2,h5,h6,h7]
    by_cases hx : tk.tx = [124]
    · have hno : ¬ (blP t 0 < t.length ∧ t[blP t 0]? ≠ some 124) := fun h => h.2 (hk124.1 ⟨by omega,hx⟩)
      refine condX_b (fun h => ?_) (fun _ => ?_)
      · exfalso; revert h; simp [hx]
      simp (disch:=omega) only[push_cast,Nat.reduceEqDiff,h2,h5,h6,h7]
      have hst : StepR t (-1) 0 (pHead t (blP t 0)) (fun ys => ([] : List Fld) = ys.map (·.1) ∧ ([] : List Nat) = preL (ys.map (·.2))) 0 (-1) := ⟨Nat.le_refl _,Nat.zero_le _,.inl ⟨rfl,rfl,[],by rw [pHead,if_neg hno],rfl,by simp [preL]⟩⟩
      refine ⟨rfl,rfl,h2,h5,h6,[],none,0,[],0,-1,[],sNil,[],own_nil,⟨rfl,.inl ⟨rfl,rfl,rfl⟩⟩,Nat.zero_le _,by simp,hst,fun w' hw' => ?_⟩
      exact (Sy.left (A := [oTk b7 tk.k tk.tx tk.at_ tk.nx tk.ft]) hw' (fun b hb => by rw [List.mem_singleton.1 hb]; exact hb7)).perm (List.Perm.swap _ _ _)
    · have hyes : blP t 0 < t.length ∧ t[blP t 0]? ≠ some 124 := ⟨hlt0,fun h => hx (hk124.2 h).2⟩
      refine condX_b (fun _ => ?_) (fun h => ?_)
      rotate_left
      · exfalso; revert h; simp [hx]
      simp (disch:=omega) only[push_cast,Nat.reduceEqDiff,h2,h5,h6,h7]
      refine callV en_42 (callX_weak (L' := oRr b5 t 0 (-1) sNil :: (([] : Own) ++ [oSc b6 sNil sNil,oSc b2 sNil sNil])) (fun w hw => Sy.left (A := [oTk b7 tk.k tk.tx tk.at_ tk.nx tk.ft]) (hw.perm (permC (fun f => by simp only [wt_append,wt_cons,wt_nil] <;> omega) : List.Perm (oTk b7 tk.k tk.tx tk.at_ tk.nx tk.ft :: oSc b6 sNil sNil :: oRr b5 t 0 (-1) sNil :: [oSc b2 sNil sNil]) ([oTk b7 tk.k tk.tx tk.at_ tk.nx tk.ft] ++ (oRr b5 t 0 (-1) sNil :: (([] : Own) ++ [oSc b6 sNil sNil,oSc b2 sNil sNil]))))) (fun b hb => by rw [List.mem_singleton.1 hb]; exact hb7)) (callX_own (S := ListV0 wb b5 t 0 (-1) [] [oSc b6 sNil sNil,oSc b2 sNil sNil] (manyP t (pField t (t.length + 1)) false (blP t 0))) (fun w' hw' => manyRR_all (t.length + 1) wb w' b5 t 0 (-1) [] sNil [] _ false ⟨ht2,Nat.zero_le _,.inl rfl,hb5,hM0,⟨rfl,.inl ⟨rfl,rfl,rfl⟩⟩,Nat.zero_le _,hw'⟩ (by omega)) (fun v9 L9 hv9 => ?_)))
      (refine Exists.elim (hv9) (fun l hz => Exists.elim hz (fun a hz => Exists.elim hz (fun c hz => Exists.elim hz (fun K hz => Exists.elim hz (fun p hz => Exists.elim hz (fun ft hz => Exists.elim hz (fun N hz => Exists.elim hz (fun nv hz => Exists.elim hz (fun RN hz => ?_))))))))); have ez := hz.1; subst ez; have hO := hz.2.1; have hN := hz.2.2.1; have hNp := hz.2.2.2.1; have hK := hz.2.2.2.2.1; have hm := hz.2.2.2.2.2.1; have ez := hz.2.2.2.2.2.2; subst ez; clear hz)
      simp (disch:=omega) only[push_cast,Nat.reduceEqDiff,h2,h5,h6,h7]
      refine storeX_weak (L' := oSc b6 sNil sNil :: oRr b5 t p ft nv :: oSc b2 sNil sNil :: (RN ++ K)) (fun w hw => hw.perm (permC (fun f => by simp only [wt_append,wt_cons,wt_nil] <;> omega) : List.Perm (oRr b5 t p ft nv :: (RN ++ (K ++ [oSc b6 sNil sNil,oSc b2 sNil sNil]))) (oSc b6 sNil sNil :: oRr b5 t p ft nv :: oSc b2 sNil sNil :: (RN ++ K)))) (storeX 0 rfl Siz.eq rfl rfl (by simp [Value.oneCell']) (by simp) ?_)
      simp (disch:=omega) only[push_cast,Nat.reduceEqDiff,h2,h5,h6,h7]
      have hst : StepR t (-1) 0 (pHead t (blP t 0)) (fun ys => l = ys.map (·.1) ∧ N = preL (ys.map (·.2))) p ft := by
        rw [show pHead t (blP t 0) = manyP t (pField t (t.length + 1)) false (blP t 0) from by rw [pHead,if_pos hyes,pFields]; unfold manyP; rw [if_neg (by simp)]]
        exact hm.of (fun _ x hx => ⟨hx.1,by rw [hx.2,List.nil_append]⟩)
      exact ⟨rfl,rfl,h2,h5,h6,l,a,c,K,p,ft,N,nv,RN,hO,hN,by have := hm.2.1; omega,hK,hst,fun w' hw' => hw'.perm (List.Perm.swap _ _ _)⟩
  clear hsee hk0 hk124 h2 h5 h6 h7 hb7 hn7
  rintro wb e ds L ⟨rfl,rfl,h2,h5,h6,l,a,c,K,p,ft,N,nv,RN,hO,hN,hNl,hK,hst,hL⟩
  rw [V_seq]
  refine cutV (Pr3 wb t b2 b5 b6) ?_ ?_
  · have hp := hst.2.1
    have hft := hst.two
    have hRNn : ∀ b ∈ RN,wb.heap.size ≤ b.1 := RowO.new hN (by simp)
    have hLall : ∀ (R : Own) (o5 o6 : Obj),(∀ b ∈ R,wb.heap.size ≤ b.1) → ∀ b ∈ (b5,o5) :: (b6,o6) :: oSc b2 sNil sNil :: ((RN ++ K) ++ R),wb.heap.size ≤ b.1 := fun R o5 o6 hR b hb => by
      simp only [List.mem_cons,List.mem_append] at hb
      rcases hb with rfl | rfl | rfl | (hb | hb) | hb
      · exact hb5
      · exact hb6
      · exact hb2
      · exact hRNn b hb
      · exact hK b hb
      · exact hR b hb
    simp (disch:=omega) only[push_cast,Nat.reduceEqDiff,h2,h5,h6]
    refine callV en_43 (callX_weak (L' := oRr b5 t p ft nv :: oSc b6 (.slice a l.length c) sNil :: oSc b2 sNil sNil :: (RN ++ K)) hL (callX_two (fun L' => ft = -1 ∧ t[blP t p]? = some 124 ∧ L' = oRr b5 t ((blP t p + 1 : Nat) : Int) ft nv :: oSc b6 (.slice a l.length c) sNil :: oSc b2 sNil sNil :: (RN ++ K)) (fun L' => ¬ (ft = -1 ∧ t[blP t p]? = some 124) ∧ L' = oRr b5 t p ft nv :: oSc b6 (.slice a l.length c) sNil :: oSc b2 sNil sNil :: (RN ++ K)) (fun w' hw' => signR_walk wb w' b5 t p ft nv _ 124 (by decide) ht2 hp hft hb5 hw') (fun L' hL' => ?_) (fun L' hL' => ?_)))
    rotate_left
    · have g1 := hL'.1
      have g3 := hL'.2
      subst g3
      clear hL'
      simp (disch:=omega) only[push_cast,Nat.reduceEqDiff,h2,h5,h6]
      rw [V_cond]
      simp (disch:=omega) only[push_cast,Nat.reduceEqDiff,h2,h5,h6]
      have hst2 : StepR t ft p (pTail t (blP t p)) (fun y => ([] : List NoteQ) = y) p ft := by
        refine ⟨Nat.le_refl _,hp,?_⟩
        rcases hft with h | h
        · refine .inl ⟨h,h,[],?_,rfl⟩
          unfold pTail pSign
          rw [if_neg (fun h2 => g1 ⟨h,h2⟩)]
        · exact .inr ⟨h,fun h2 => by omega,fun _ => rfl⟩
      exact ⟨rfl,rfl,h2,h5,h6,l,a,c,K,p,ft,N,nv,RN,[],sNil,[],p,ft,hO,hN,hNl,hK,⟨rfl,.inl ⟨rfl,rfl,rfl⟩⟩,hst,hst2,fun w' hw' => by rw [List.append_nil]; exact hw'⟩
    have g1 := hL'.1
    have g2 := hL'.2.1
    have g3 := hL'.2.2
    subst g3
    clear hL'
    subst g1
    have hlt2 := (List.getElem?_eq_some_iff.1 g2).1
    simp (disch:=omega) only[push_cast,Nat.reduceEqDiff,h2,h5,h6]
    rw [V_cond]
    simp (disch:=omega) only[push_cast,Nat.reduceEqDiff,h2,h5,h6]
    have hn0 : ∀ b ∈ ([] : Own),wb.heap.size ≤ b.1 := fun b hb => by cases hb
    have hR0 : RowO wb 90 2 [] [] sNil ([] : List NoteQ).length (noteCs []) := ⟨rfl,.inl ⟨rfl,rfl,rfl⟩⟩
    have hbp : p ≤ blP t p := runP_ge _ _ _
    have htl0 : pTail t (blP t p) = pNotes t (t.length + 1) (blP t (blP t p + 1)) := by
      unfold pTail pSign
      rw [if_pos g2]
    refine cutW (fun wb' e ds L => ∃ p',Pr4 wb t b2 b5 b6 (.slice a l.length c) nv (RN ++ K) (pTail t (blP t p)) p p' wb' e ds L) ?_ ?_
    · refine freeIT [0,2,4] [1,3,5,6,7,8,9,10] [(1,[]),(3,[]),(5,[3]),(6,[5]),(7,[6]),(8,[1,7]),(9,[8]),(10,[9])] [] (NoI wb t b2 b5 b6 (.slice a l.length c) nv sNil (RN ++ K) [] [] (blP t p + 1) (-1) 38 39 40 41 42 43 44 45 46 47) (by kernel_rfl) mixed (by kernel_rfl) (by kernel_rfl) (fun D e ds L hI => ?_) ?_ ?_ (Stab.of (List.nil_sublist _) (fun b hb => hLall [] _ _ hn0 b (by simpa using hb))) ?_
      · obtain ⟨rfl,_,_,_,_,_,_,_,_,_,_,_,_,_,k1,k2,p3,ft3,p4,ft4,b9,za,zc,R5,_,_,_,d7,d8,_,rfl⟩ := hI
        refine Stab.of (List.nil_sublist _) (hLall _ _ _ (fun b hb => ?_))
        rcases List.mem_append.1 hb with hb | hb
        · split at hb
          · rename_i h8; exact RowO.new (d8 h8).2 (by simp) b hb
          · exact hn0 b hb
        · split at hb
          · rename_i h7
            split at hb
            · cases hb
            · rw [List.mem_singleton.1 hb]; exact (d7 h7).2
          · cases hb
      · intro q hq D e ds L hD hdep hI
        obtain ⟨rfl,h2,h5,h6,ht0,ht2q,ht4q,d1,m5,m6,m7,m8,m9,m10,k1,k2,p3,ft3,p4,ft4,b9,za,zc,R5,d3,d5,d6,d7,d8,d9,rfl⟩ := hI
        simp only [List.mem_cons,List.mem_nil_iff,or_false] at hq
        rcases hq with rfl | rfl | rfl | rfl | rfl | rfl | rfl | rfl
        all_goals simp only [List.mem_cons,List.mem_nil_iff,or_false,forall_eq_or_imp,forall_eq,false_implies,implies_true] at hD hdep
        · have n8 : D 8 = false := bf (fun h => (m8 h).2) hD
          have n9 : D 9 = false := bf (m9) n8
          have n10 : D 10 = false := bf (m10) n9
          simp (disch:=omega) only[push_cast,Nat.reduceEqDiff,h2,h5,h6,ht0,ht2q,ht4q,hD,n8,n9,n10,Bool.false_eq_true,if_false,if_true,List.append_nil]
          refine ldOne Shp.eq mem1 rfl ?_
          simp (disch:=omega) only[push_cast,Nat.reduceEqDiff,h2,h5,h6,ht0,ht2q,ht4q,hD,n8,n9,n10,Bool.false_eq_true,if_false,if_true,List.append_nil]
          exact ⟨_,fun w hw => hw,rfl,by simpa [upd] using h2,by simpa [upd] using h5,by simpa [upd] using h6,by simpa [upd] using ht0,by simpa [upd] using ht2q,by simpa [upd] using ht4q,fun _ => by simp [upd],fun h => by simpa using m5 (by simpa using h),fun h => by simpa using m6 (by simpa using h),fun h => by simpa using m7 (by simpa using h),fun h => by simp [n8] at h,fun h => by simp [n9] at h,fun h => by simp [n10] at h,⟨k1,k2,p3,ft3,p4,ft4,b9,za,zc,R5,fun h => by simpa [upd] using d3 (by simpa using h),fun h => by simpa [upd] using d5 (by simpa using h),fun h => by simpa [upd] using d6 (by simpa using h),fun h => by simpa [upd] using d7 (by simpa using h),fun h => by simpa [upd] using d8 (by simpa using h),fun h => by simpa [upd] using d9 (by simpa using h),by simp [hD,n8,n9,n10]⟩⟩
        · have n5 : D 5 = false := bf (m5) hD
          have n6 : D 6 = false := bf (m6) n5
          have n7 : D 7 = false := bf (m7) n6
          have n8 : D 8 = false := bf (fun h => (m8 h).1) n7
          have n9 : D 9 = false := bf (m9) n8
          have n10 : D 10 = false := bf (m10) n9
          simp (disch:=omega) only[push_cast,Nat.reduceEqDiff,h2,h5,h6,ht0,ht2q,ht4q,hD,n5,n6,n7,n8,n9,n10,Bool.false_eq_true,if_false,if_true,List.append_nil]
          refine callV en_44 (callX_own (S := fun x L' => ∃ (l1 : List UInt8) (p' : Nat) (ft' : Int),x = str l1 ∧ (0 ≤ ft' → l1 = []) ∧ StepR t (-1) (blP t p + 1) (pQuote t (blP t (blP t p + 1))) (fun y => l1 = y) p' ft' ∧ L' = oRr b5 t p' ft' nv :: oSc b6 (.slice a l.length c) sNil :: oSc b2 sNil sNil :: ((RN ++ K))) (fun w' hw' => textR_walk wb w' b5 t (blP t p + 1) (-1) nv _ ht2 hlt2 (.inl rfl) hb5 hw') (fun v9 L9 hv9 => ?_))
          (refine Exists.elim (hv9) (fun kk hz => Exists.elim hz (fun pp hz => Exists.elim hz (fun ff hz => ?_))); have ez := hz.1; subst ez; have hkk := hz.2.1; have hmm := hz.2.2.1; have ez := hz.2.2.2; subst ez; clear hz)
          simp (disch:=omega) only[push_cast,Nat.reduceEqDiff,h2,h5,h6,ht0,ht2q,ht4q,hD,n5,n6,n7,n8,n9,n10,Bool.false_eq_true,if_false,if_true,List.append_nil]
          exact ⟨_,fun w hw => hw,rfl,by simpa [upd] using h2,by simpa [upd] using h5,by simpa [upd] using h6,by simpa [upd] using ht0,by simpa [upd] using ht2q,by simpa [upd] using ht4q,fun h => by simpa [upd] using d1 (by simpa using h),fun h => by simp [n5] at h,fun h => by simp [n6] at h,fun h => by simp [n7] at h,fun h => by simp [n8] at h,fun h => by simp [n9] at h,fun h => by simp [n10] at h,⟨kk,k2,pp,ff,p4,ft4,b9,za,zc,R5,fun _ => ⟨by simp [upd],hmm⟩,fun h => by simp [n5] at h,fun h => by simp [n6] at h,fun h => by simp [n7] at h,fun h => by simp [n8] at h,fun h => by simp [n9] at h,by simp [hD,n5,n6,n7,n8,n9,n10]⟩⟩
        · have y3 := hdep
          have n6 : D 6 = false := bf (m6) hD
          have n7 : D 7 = false := bf (m7) n6
          have n8 : D 8 = false := bf (fun h => (m8 h).1) n7
          have n9 : D 9 = false := bf (m9) n8
          have n10 : D 10 = false := bf (m10) n9
          have g3 := d3 y3
          simp (disch:=omega) only[push_cast,Nat.reduceEqDiff,h2,h5,h6,ht0,ht2q,ht4q,hD,n6,n7,n8,n9,n10,y3,Bool.false_eq_true,if_false,if_true,List.append_nil]
          refine callV en_44 (callX_own (S := fun x L' => ∃ (l1 : List UInt8) (p' : Nat) (ft' : Int),x = str l1 ∧ (0 ≤ ft' → l1 = []) ∧ StepR t ft3 p3 (pQuote t (blP t p3)) (fun y => l1 = y) p' ft' ∧ L' = oRr b5 t p' ft' nv :: oSc b6 (.slice a l.length c) sNil :: oSc b2 sNil sNil :: ((RN ++ K))) (fun w' hw' => textR_walk wb w' b5 t p3 ft3 nv _ ht2 g3.2.2.1 g3.2.two hb5 hw') (fun v9 L9 hv9 => ?_))
          (refine Exists.elim (hv9) (fun kk hz => Exists.elim hz (fun pp hz => Exists.elim hz (fun ff hz => ?_))); have ez := hz.1; subst ez; have hkk := hz.2.1; have hmm := hz.2.2.1; have ez := hz.2.2.2; subst ez; clear hz)
          simp (disch:=omega) only[push_cast,Nat.reduceEqDiff,h2,h5,h6,ht0,ht2q,ht4q,hD,n6,n7,n8,n9,n10,y3,Bool.false_eq_true,if_false,if_true,List.append_nil]
          exact ⟨_,fun w hw => hw,rfl,by simpa [upd] using h2,by simpa [upd] using h5,by simpa [upd] using h6,by simpa [upd] using ht0,by simpa [upd] using ht2q,by simpa [upd] using ht4q,fun h => by simpa [upd] using d1 (by simpa using h),fun _ => by simp [hD,n6,n7,n8,n9,n10,y3],fun h => by simp [n6] at h,fun h => by simp [n7] at h,fun h => by simp [n8] at h,fun h => by simp [n9] at h,fun h => by simp [n10] at h,⟨k1,kk,p3,ft3,pp,ff,b9,za,zc,R5,fun h => by simpa [upd] using d3 (by simpa using h),fun _ => ⟨by simp [upd],hmm⟩,fun h => by simp [n6] at h,fun h => by simp [n7] at h,fun h => by simp [n8] at h,fun h => by simp [n9] at h,by simp [hD,n6,n7,n8,n9,n10,y3]⟩⟩
        · have y5 := hdep
          have y3 := m5 y5
          have n7 : D 7 = false := bf (m7) hD
          have n8 : D 8 = false := bf (fun h => (m8 h).1) n7
          have n9 : D 9 = false := bf (m9) n8
          have n10 : D 10 = false := bf (m10) n9
          have g3 := (d3 y3).1
          have g5 := (d5 y5).1
          simp (disch:=omega) only[push_cast,Nat.reduceEqDiff,g3,g5,h2,h5,h6,ht0,ht2q,ht4q,hD,n7,n8,n9,n10,y5,y3,Bool.false_eq_true,if_false,if_true,List.append_nil]
          exact ⟨_,fun w hw => hw,rfl,by simpa [upd] using h2,by simpa [upd] using h5,by simpa [upd] using h6,by simpa [upd] using ht0,by simpa [upd] using ht2q,by simpa [upd] using ht4q,fun h => by simpa [upd] using d1 (by simpa using h),fun _ => by simp [hD,n7,n8,n9,n10,y5,y3],fun _ => by simp [hD,n7,n8,n9,n10,y5,y3],fun h => by simp [n7] at h,fun h => by simp [n8] at h,fun h => by simp [n9] at h,fun h => by simp [n10] at h,⟨k1,k2,p3,ft3,p4,ft4,b9,za,zc,R5,fun h => by simpa [upd] using d3 (by simpa using h),fun h => by simpa [upd] using d5 (by simpa using h),fun _ => by simp [upd],fun h => by simp [n7] at h,fun h => by simp [n8] at h,fun h => by simp [n9] at h,by simp [hD,n7,n8,n9,n10,y5,y3]⟩⟩
        · have y6 := hdep
          have y5 := m6 y6
          have y3 := m5 y5
          have n8 : D 8 = false := bf (fun h => (m8 h).1) hD
          have n9 : D 9 = false := bf (m9) n8
          have n10 : D 10 = false := bf (m10) n9
          have g6 := d6 y6
          simp (disch:=omega) only[push_cast,Nat.reduceEqDiff,g6,h2,h5,h6,ht0,ht2q,ht4q,hD,n8,n9,n10,y6,y5,y3,Bool.false_eq_true,if_false,if_true,List.append_nil]
          refine bs_25_1 (newI fun b10 hb10 hn10 => ?_)
          simp (disch:=omega) only[push_cast,Nat.reduceEqDiff,h2,h5,h6,ht0,ht2q,ht4q,hD,n8,n9,n10,y6,y5,y3,Bool.false_eq_true,if_false,if_true,List.append_nil]
          refine ⟨oRr b5 t p4 ft4 nv :: oSc b6 (.slice a l.length c) sNil :: oSc b2 sNil sNil :: ((RN ++ K) ++ ([] ++ [(b10,Obj.cells #[str k1,str k2] 90 (0,0))])),fun w hw => hw.perm (permC (fun f => by simp only [wt_append,wt_cons,wt_nil] <;> omega) : List.Perm ((b10,Obj.cells #[str k1,str k2] 90 (0,0)) :: oRr b5 t p4 ft4 nv :: oSc b6 (.slice a l.length c) sNil :: oSc b2 sNil sNil :: ((RN ++ K))) (oRr b5 t p4 ft4 nv :: oSc b6 (.slice a l.length c) sNil :: oSc b2 sNil sNil :: ((RN ++ K) ++ ([] ++ [(b10,Obj.cells #[str k1,str k2] 90 (0,0))])))),rfl,by simpa [upd] using h2,by simpa [upd] using h5,by simpa [upd] using h6,by simpa [upd] using ht0,by simpa [upd] using ht2q,by simpa [upd] using ht4q,fun h => by simpa [upd] using d1 (by simpa using h),fun _ => by simp [hD,n8,n9,n10,y6,y5,y3],fun _ => by simp [hD,n8,n9,n10,y6,y5,y3],fun _ => by simp [hD,n8,n9,n10,y6,y5,y3],fun h => by simp [n8] at h,fun h => by simp [n9] at h,fun h => by simp [n10] at h,⟨k1,k2,p3,ft3,p4,ft4,b10,za,zc,R5,fun h => by simpa [upd] using d3 (by simpa using h),fun h => by simpa [upd] using d5 (by simpa using h),fun h => by simpa [upd] using d6 (by simpa using h),fun _ => ⟨by simp [upd],hb10⟩,fun h => by simp [n8] at h,fun h => by simp [n9] at h,by simp [hD,n8,n9,n10,y6,y5,y3]⟩⟩
        · have y1 := hdep.1
          have y7 := hdep.2
          have y6 := m7 y7
          have y5 := m6 y6
          have y3 := m5 y5
          have n9 : D 9 = false := bf (m9) hD
          have n10 : D 10 = false := bf (m10) n9
          have g1 := d1 y1
          have g7 := d7 y7
          simp (disch:=omega) only[push_cast,Nat.reduceEqDiff,g1,g7.1,h2,h5,h6,ht0,ht2q,ht4q,hD,n9,n10,y7,y6,y5,y3,y1,Bool.false_eq_true,if_false,if_true,List.append_nil]
          refine valX_weak (L' := [] ++ ((b9,Obj.cells #[str k1,str k2] 90 (0,0)) :: oRr b5 t p4 ft4 nv :: oSc b6 (.slice a l.length c) sNil :: oSc b2 sNil sNil :: (RN ++ K))) (fun w hw => hw.perm (permC (fun f => by simp only [wt_append,wt_cons,wt_nil] <;> omega) : List.Perm (oRr b5 t p4 ft4 nv :: oSc b6 (.slice a l.length c) sNil :: oSc b2 sNil sNil :: ((RN ++ K) ++ ([(b9,Obj.cells #[str k1,str k2] 90 (0,0))]))) ([] ++ ((b9,Obj.cells #[str k1,str k2] 90 (0,0)) :: oRr b5 t p4 ft4 nv :: oSc b6 (.slice a l.length c) sNil :: oSc b2 sNil sNil :: (RN ++ K))))) (appendI un_25 infoNote rfl (m := 1) (news := [str k1,str k2]) (RowO.frame hR0) rfl (CanRead.of_own (e := 90) (b := b9) (cs := [str k1,str k2]) (n := 2) (List.mem_append_right _ (.head _)) rfl rfl) (by simp [Value.oneCell']) (by simp [maxLen]) (by first | omega | simp) (fun v5 L5 hro5 _ => ?_))
          (refine Exists.elim (RowO.unframe hro5) (fun R7 hz => ?_); have ez := hz.1; subst ez; have hR7 := hz.2; clear hz)
          obtain ⟨za7,zc7,hv7⟩ := hR7.is_slice
          subst hv7
          simp (disch:=omega) only[push_cast,Nat.reduceEqDiff,h2,h5,h6,ht0,ht2q,ht4q,hD,n9,n10,y7,y6,y5,y3,y1,Bool.false_eq_true,if_false,if_true,List.append_nil]
          refine ⟨oRr b5 t p4 ft4 nv :: oSc b6 (.slice a l.length c) sNil :: oSc b2 sNil sNil :: ((RN ++ K) ++ R7),fun w hw => Sy.left (A := [(b9,Obj.cells #[str k1,str k2] 90 (0,0))]) (hw.perm (permC (fun f => by simp only [wt_append,wt_cons,wt_nil] <;> omega) : List.Perm (R7 ++ ((b9,Obj.cells #[str k1,str k2] 90 (0,0)) :: oRr b5 t p4 ft4 nv :: oSc b6 (.slice a l.length c) sNil :: oSc b2 sNil sNil :: (RN ++ K))) ([(b9,Obj.cells #[str k1,str k2] 90 (0,0))] ++ (oRr b5 t p4 ft4 nv :: oSc b6 (.slice a l.length c) sNil :: oSc b2 sNil sNil :: ((RN ++ K) ++ R7))))) (fun b hb => by rw [List.mem_singleton.1 hb]; exact g7.2),rfl,by simpa [upd] using h2,by simpa [upd] using h5,by simpa [upd] using h6,by simpa [upd] using ht0,by simpa [upd] using ht2q,by simpa [upd] using ht4q,fun h => by simpa [upd] using d1 (by simpa using h),fun _ => by simp [hD,n9,n10,y7,y6,y5,y3,y1],fun _ => by simp [hD,n9,n10,y7,y6,y5,y3,y1],fun _ => by simp [hD,n9,n10,y7,y6,y5,y3,y1],fun _ => by simp [hD,n9,n10,y7,y6,y5,y3,y1],fun h => by simp [n9] at h,fun h => by simp [n10] at h,⟨k1,k2,p3,ft3,p4,ft4,b9,za7,zc7,R7,fun h => by simpa [upd] using d3 (by simpa using h),fun h => by simpa [upd] using d5 (by simpa using h),fun h => by simpa [upd] using d6 (by simpa using h),fun h => by simpa [upd] using d7 (by simpa using h),fun _ => ⟨by simp [upd],hR7⟩,fun h => by simp [n9] at h,by simp [hD,n9,n10,y7,y6,y5,y3,y1]⟩⟩
        · have y8 := hdep
          have y7 := (m8 y8).1
          have y1 := (m8 y8).2
          have y6 := m7 y7
          have y5 := m6 y6
          have y3 := m5 y5
          have n10 : D 10 = false := bf (m10) hD
          simp (disch:=omega) only[push_cast,Nat.reduceEqDiff,h2,h5,h6,ht0,ht2q,ht4q,hD,n10,y8,y7,y1,y6,y5,y3,Bool.false_eq_true,if_false,if_true,List.append_nil]
          exact ⟨_,fun w hw => hw,rfl,by simpa [upd] using h2,by simpa [upd] using h5,by simpa [upd] using h6,by simpa [upd] using ht0,by simpa [upd] using ht2q,by simpa [upd] using ht4q,fun h => by simpa [upd] using d1 (by simpa using h),fun _ => by simp [hD,n10,y8,y7,y1,y6,y5,y3],fun _ => by simp [hD,n10,y8,y7,y1,y6,y5,y3],fun _ => by simp [hD,n10,y8,y7,y1,y6,y5,y3],fun _ => by simp [hD,n10,y8,y7,y1,y6,y5,y3],fun _ => by simp [hD,n10,y8,y7,y1,y6,y5,y3],fun h => by simp [n10] at h,⟨k1,k2,p3,ft3,p4,ft4,b9,za,zc,R5,fun h => by simpa [upd] using d3 (by simpa using h),fun h => by simpa [upd] using d5 (by simpa using h),fun h => by simpa [upd] using d6 (by simpa using h),fun h => by simpa [upd] using d7 (by simpa using h),fun h => by simpa [upd] using d8 (by simpa using h),fun _ => by simp [upd],by simp [hD,n10,y8,y7,y1,y6,y5,y3]⟩⟩
        · have y9 := hdep
          have y8 := m9 y9
          have y7 := (m8 y8).1
          have y1 := (m8 y8).2
          have y6 := m7 y7
          have y5 := m6 y6
          have y3 := m5 y5
          have g8 := d8 y8
          have g9 := d9 y9
          simp (disch:=omega) only[push_cast,Nat.reduceEqDiff,g8.1,g9,h2,h5,h6,ht0,ht2q,ht4q,hD,y9,y8,y7,y1,y6,y5,y3,Bool.false_eq_true,if_false,if_true,List.append_nil]
          refine storeX_weak (L' := oSc b6 (.slice a l.length c) sNil :: oRr b5 t p4 ft4 nv :: oSc b2 sNil sNil :: ((RN ++ K) ++ R5)) (fun w hw => hw.perm (permC (fun f => by simp only [wt_append,wt_cons,wt_nil] <;> omega) : List.Perm (oRr b5 t p4 ft4 nv :: oSc b6 (.slice a l.length c) sNil :: oSc b2 sNil sNil :: ((RN ++ K) ++ R5)) (oSc b6 (.slice a l.length c) sNil :: oRr b5 t p4 ft4 nv :: oSc b2 sNil sNil :: ((RN ++ K) ++ R5)))) (storeX 0 rfl Siz.eq rfl rfl (by simp [Value.oneCell']) (by simp) ?_)
          simp (disch:=omega) only[push_cast,Nat.reduceEqDiff,h2,h5,h6,ht0,ht2q,ht4q,hD,y9,y8,y7,y1,y6,y5,y3,Bool.false_eq_true,if_false,if_true,List.append_nil]
          refine ⟨oRr b5 t p4 ft4 nv :: oSc b6 (.slice a l.length c) (.slice za (([] : List NoteQ).length + 1) zc) :: oSc b2 sNil sNil :: ((RN ++ K) ++ R5),fun w hw => hw.perm (permC (fun f => by simp only [wt_append,wt_cons,wt_nil] <;> omega) : List.Perm (oSc b6 (.slice a l.length c) (.slice za (([] : List NoteQ).length + 1) zc) :: oRr b5 t p4 ft4 nv :: oSc b2 sNil sNil :: ((RN ++ K) ++ R5)) (oRr b5 t p4 ft4 nv :: oSc b6 (.slice a l.length c) (.slice za (([] : List NoteQ).length + 1) zc) :: oSc b2 sNil sNil :: ((RN ++ K) ++ R5))),rfl,by simpa [upd] using h2,by simpa [upd] using h5,by simpa [upd] using h6,by simpa [upd] using ht0,by simpa [upd] using ht2q,by simpa [upd] using ht4q,fun h => by simpa [upd] using d1 (by simpa using h),fun _ => by simp [hD,y9,y8,y7,y1,y6,y5,y3],fun _ => by simp [hD,y9,y8,y7,y1,y6,y5,y3],fun _ => by simp [hD,y9,y8,y7,y1,y6,y5,y3],fun _ => by simp [hD,y9,y8,y7,y1,y6,y5,y3],fun _ => by simp [hD,y9,y8,y7,y1,y6,y5,y3],fun _ => by simp [hD,y9,y8,y7,y1,y6,y5,y3],⟨k1,k2,p3,ft3,p4,ft4,b9,za,zc,R5,fun h => by simpa [upd] using d3 (by simpa using h),fun h => by simpa [upd] using d5 (by simpa using h),fun h => by simpa [upd] using d6 (by simpa using h),fun h => by simpa [upd] using d7 (by simpa using h),fun h => by simpa [upd] using d8 (by simpa using h),fun h => by simpa [upd] using d9 (by simpa using h),by simp [hD,y9,y8,y7,y1,y6,y5,y3]⟩⟩
      · intro D e ds L hD hI
        obtain ⟨rfl,h2,h5,h6,ht0,ht2q,ht4q,d1,m5,m6,m7,m8,m9,m10,k1,k2,p3,ft3,p4,ft4,b9,za,zc,R5,d3,d5,d6,d7,d8,d9,rfl⟩ := hI
        have y3 := hD 3 (by simp)
        have y5 := hD 5 (by simp)
        have y7 := hD 7 (by simp)
        have y8 := hD 8 (by simp)
        have y10 := hD 10 (by simp)
        have g3 := (d3 y3).2
        have g5 := (d5 y5).2
        have g8 := (d8 y8).2
        have hlt5 := quote_lt g3.2.1 g5
        have hlt6 := g3.1
        have hnl : (([] : List NoteQ) ++ [(k1,k2)]).length ≤ p4 + 1 := by
          rw [List.length_append,List.length_singleton]
          have := g3.1
          have : p3 ≤ p4 := g5.1
          have : ([] : List NoteQ).length ≤ (blP t p + 1) := by first | omega | simp
          omega
        have hR8 : RowO wb 90 2 R5 [] (.slice za (([] : List NoteQ) ++ [(k1,k2)]).length zc) (([] : List NoteQ) ++ [(k1,k2)]).length (noteCs (([] : List NoteQ) ++ [(k1,k2)])) := by
          rw [List.length_append,List.length_singleton]
          exact g8.cast rfl (by simp [noteCs])
        have hln : LnR t (-1) (pTail t (blP t p)) p4 ft4 (([] : List NoteQ) ++ [(k1,k2)]) := LnR.step (ft := -1) (m := t.length) (by omega) (fun h => ⟨h,by rw [htl0]; exact (pr_id _).symm⟩) (fun h => by omega) (.inl rfl) g3 g5 (fun h => by have := hlt5 h; omega)
        refine ⟨oRr b5 t p4 ft4 nv :: oSc b6 (.slice a l.length c) (.slice za (([] : List NoteQ) ++ [(k1,k2)]).length zc) :: oSc b2 sNil sNil :: ((RN ++ K) ++ R5),fun w hw => ?_,p4,⟨rfl,rfl,h2,h5,h6,?_,g5.2.1,(([] : List NoteQ) ++ [(k1,k2)]),za,zc,R5,ft4,hR8,hnl,hln,rfl⟩⟩
        · rw [List.length_append,List.length_singleton]
          simpa only [y3,y5,y7,y8,y10,if_true,List.append_nil] using hw
        · show p ≤ p4
          have := g3.1
          have : p3 ≤ p4 := g5.1
          omega
      · simp (disch:=omega) only[push_cast,Nat.reduceEqDiff,h2,h5,h6]
        exact ⟨rfl,h2,h5,h6,rfl,rfl,rfl,fun h => by simp at h,fun h => by simp at h,fun h => by simp at h,fun h => by simp at h,fun h => by simp at h,fun h => by simp at h,fun h => by simp at h,⟨[],[],0,0,0,0,0,none,0,[],fun h => by simp at h,fun h => by simp at h,fun h => by simp at h,fun h => by simp at h,fun h => by simp at h,fun h => by simp at h,by simp⟩⟩
    rintro wb e ds L ⟨p2,rfl,rfl,h2,h5,h6,hp02,hp2,nt0,ya0,yc0,R0,ft0,hR0,hnl0,hln0,rfl⟩
    rw [V_block]
    simp (disch:=omega) only[push_cast,Nat.reduceEqDiff,h2,h5,h6]
    refine loopW (G := Nat) (fun p' => Pr4 wb t b2 b5 b6 (.slice a l.length c) nv (RN ++ K) (pTail t (blP t p)) p p') (fun p' => t.length - p') p2 _ (fun w hw => hw) (by kernel_rfl) ⟨rfl,rfl,h2,h5,h6,hp02,hp2,nt0,ya0,yc0,R0,ft0,hR0,hnl0,hln0,rfl⟩ ?_
    clear hR0 hnl0 hln0 h2 h5 h6
    rintro i wb e ds L ⟨rfl,rfl,h2,h5,h6,hpi,hi,nt,ya,yc,R,fti,hR,hnl,hln,rfl⟩
    have hRn : ∀ b ∈ R,wb.heap.size ≤ b.1 := RowO.new hR (by simp)
    have hfti := hln.two
    simp (disch:=omega) only[push_cast,Nat.reduceEqDiff,h2,h5,h6]
    refine callV en_43 (callX_two (fun L' => fti = -1 ∧ t[blP t i]? = some 44 ∧ L' = oRr b5 t ((blP t i + 1 : Nat) : Int) fti nv :: oSc b6 (.slice a l.length c) (.slice ya nt.length yc) :: oSc b2 sNil sNil :: ((RN ++ K) ++ R)) (fun L' => ¬ (fti = -1 ∧ t[blP t i]? = some 44) ∧ L' = oRr b5 t i fti nv :: oSc b6 (.slice a l.length c) (.slice ya nt.length yc) :: oSc b2 sNil sNil :: ((RN ++ K) ++ R)) (fun w' hw' => signR_walk wb w' b5 t i fti nv _ 44 (by decide) ht2 hi hfti hb5 hw') (fun L' hL' => ?_) (fun L' hL' => ?_))
    rotate_left
    · have g1 := hL'.1
      have g3 := hL'.2
      subst g3
      clear hL'
      simp (disch:=omega) only[push_cast,Nat.reduceEqDiff,h2,h5,h6]
      rw [V_cond]
      simp (disch:=omega) only[push_cast,Nat.reduceEqDiff,h2,h5,h6]
      have hdone := hln.done g1 hpi hi
      exact ⟨rfl,rfl,h2,h5,h6,l,a,c,K,p,-1,N,nv,RN,nt,_,R,i,fti,hO,hN,hNl,hK,hR,hst,hdone,fun w' hw' => by rw [← List.append_assoc]; exact hw'⟩
    have g1 := hL'.1
    have g2' := hL'.2.1
    have g3 := hL'.2.2
    subst g3
    clear hL'
    subst g1
    have hlti := (List.getElem?_eq_some_iff.1 g2').1
    have hbi : i ≤ blP t i := runP_ge _ _ _
    obtain ⟨m,hm,hT⟩ : ∃ m,t.length - i < m ∧ pTail t (blP t p) = (tailN t m (blP t i)).and fun r q => .ok (nt ++ r) q := by
      rcases hln with ⟨_,_,h⟩ | ⟨h,_⟩
      · exact h
      · omega
    obtain ⟨m,rfl⟩ : ∃ k,m = k + 1 := ⟨m - 1,by omega⟩
    have htl : tailN t (m + 1) (blP t i) = pNotes t (m + 1) (blP t (blP t i + 1)) := by
      unfold tailN pSign
      rw [if_pos g2']
    simp (disch:=omega) only[push_cast,Nat.reduceEqDiff,h2,h5,h6]
    rw [V_cond]
    simp (disch:=omega) only[push_cast,Nat.reduceEqDiff,h2,h5,h6]
    rw [V_block]
    simp (disch:=omega) only[push_cast,Nat.reduceEqDiff,h2,h5,h6]
    refine freeIT [0,2,4] [1,3,5,6,7,8,9,10] [(1,[]),(3,[]),(5,[3]),(6,[5]),(7,[6]),(8,[1,7]),(9,[8]),(10,[9])] [] (NoI wb t b2 b5 b6 (.slice a l.length c) nv (.slice ya nt.length yc) (RN ++ K) R nt (blP t i + 1) (-1) 50 51 52 53 54 55 56 57 58 59) (by kernel_rfl) mixed (by kernel_rfl) (by kernel_rfl) (fun D e ds L hI => ?_) ?_ ?_ (Stab.of (List.nil_sublist _) (fun b hb => hLall R _ _ hRn b (by simpa using hb))) ?_
    · obtain ⟨rfl,_,_,_,_,_,_,_,_,_,_,_,_,_,k1,k2,p3,ft3,p4,ft4,b9,za,zc,R5,_,_,_,d7,d8,_,rfl⟩ := hI
      refine Stab.of (List.nil_sublist _) (hLall _ _ _ (fun b hb => ?_))
      rcases List.mem_append.1 hb with hb | hb
      · split at hb
        · rename_i h8; exact RowO.new (d8 h8).2 (by simp) b hb
        · exact hRn b hb
      · split at hb
        · rename_i h7
          split at hb
          · cases hb
          · rw [List.mem_singleton.1 hb]; exact (d7 h7).2
        · cases hb
    · intro q hq D e ds L hD hdep hI
      obtain ⟨rfl,h2,h5,h6,ht0,ht2q,ht4q,d1,m5,m6,m7,m8,m9,m10,k1,k2,p3,ft3,p4,ft4,b9,za,zc,R5,d3,d5,d6,d7,d8,d9,rfl⟩ := hI
      simp only [List.mem_cons,List.mem_nil_iff,or_false] at hq
      rcases hq with rfl | rfl | rfl | rfl | rfl | rfl | rfl | rfl
      all_goals simp only [List.mem_cons,List.mem_nil_iff,or_false,forall_eq_or_imp,forall_eq,false_implies,implies_true] at hD hdep
      · have n8 : D 8 = false := bf (fun h => (m8 h).2) hD
        have n9 : D 9 = false := bf (m9) n8
        have n10 : D 10 = false := bf (m10) n9
        simp (disch:=omega) only[push_cast,Nat.reduceEqDiff,h2,h5,h6,ht0,ht2q,ht4q,hD,n8,n9,n10,Bool.false_eq_true,if_false,if_true,List.append_nil]
        refine ldOne Shp.eq mem1 rfl ?_
        simp (disch:=omega) only[push_cast,Nat.reduceEqDiff,h2,h5,h6,ht0,ht2q,ht4q,hD,n8,n9,n10,Bool.false_eq_true,if_false,if_true,List.append_nil]
        exact ⟨_,fun w hw => hw,rfl,by simpa [upd] using h2,by simpa [upd] using h5,by simpa [upd] using h6,by simpa [upd] using ht0,by simpa [upd] using ht2q,by simpa [upd] using ht4q,fun _ => by simp [upd],fun h => by simpa using m5 (by simpa using h),fun h => by simpa using m6 (by simpa using h),fun h => by simpa using m7 (by simpa using h),fun h => by simp [n8] at h,fun h => by simp [n9] at h,fun h => by simp [n10] at h,⟨k1,k2,p3,ft3,p4,ft4,b9,za,zc,R5,fun h => by simpa [upd] using d3 (by simpa using h),fun h => by simpa [upd] using d5 (by simpa using h),fun h => by simpa [upd] using d6 (by simpa using h),fun h => by simpa [upd] using d7 (by simpa using h),fun h => by simpa [upd] using d8 (by simpa using h),fun h => by simpa [upd] using d9 (by simpa using h),by simp [hD,n8,n9,n10]⟩⟩
      · have n5 : D 5 = false := bf (m5) hD
        have n6 : D 6 = false := bf (m6) n5
        have n7 : D 7 = false := bf (m7) n6
        have n8 : D 8 = false := bf (fun h => (m8 h).1) n7
        have n9 : D 9 = false := bf (m9) n8
        have n10 : D 10 = false := bf (m10) n9
        simp (disch:=omega) only[push_cast,Nat.reduceEqDiff,h2,h5,h6,ht0,ht2q,ht4q,hD,n5,n6,n7,n8,n9,n10,Bool.false_eq_true,if_false,if_true,List.append_nil]
        refine callV en_44 (callX_own (S := fun x L' => ∃ (l1 : List UInt8) (p' : Nat) (ft' : Int),x = str l1 ∧ (0 ≤ ft' → l1 = []) ∧ StepR t (-1) (blP t i + 1) (pQuote t (blP t (blP t i + 1))) (fun y => l1 = y) p' ft' ∧ L' = oRr b5 t p' ft' nv :: oSc b6 (.slice a l.length c) (.slice ya nt.length yc) :: oSc b2 sNil sNil :: ((RN ++ K) ++ R)) (fun w' hw' => textR_walk wb w' b5 t (blP t i + 1) (-1) nv _ ht2 hlti (.inl rfl) hb5 hw') (fun v9 L9 hv9 => ?_))
        (refine Exists.elim (hv9) (fun kk hz => Exists.elim hz (fun pp hz => Exists.elim hz (fun ff hz => ?_))); have ez := hz.1; subst ez; have hkk := hz.2.1; have hmm := hz.2.2.1; have ez := hz.2.2.2; subst ez; clear hz)
        simp (disch:=omega) only[push_cast,Nat.reduceEqDiff,h2,h5,h6,ht0,ht2q,ht4q,hD,n5,n6,n7,n8,n9,n10,Bool.false_eq_true,if_false,if_true,List.append_nil]
        exact ⟨_,fun w hw => hw,rfl,by simpa [upd] using h2,by simpa [upd] using h5,by simpa [upd] using h6,by simpa [upd] using ht0,by simpa [upd] using ht2q,by simpa [upd] using ht4q,fun h => by simpa [upd] using d1 (by simpa using h),fun h => by simp [n5] at h,fun h => by simp [n6] at h,fun h => by simp [n7] at h,fun h => by simp [n8] at h,fun h => by simp [n9] at h,fun h => by simp [n10] at h,⟨kk,k2,pp,ff,p4,ft4,b9,za,zc,R5,fun _ => ⟨by simp [upd],hmm⟩,fun h => by simp [n5] at h,fun h => by simp [n6] at h,fun h => by simp [n7] at h,fun h => by simp [n8] at h,fun h => by simp [n9] at h,by simp [hD,n5,n6,n7,n8,n9,n10]⟩⟩
      · have y3 := hdep
        have n6 : D 6 = false := bf (m6) hD
        have n7 : D 7 = false := bf (m7) n6
        have n8 : D 8 = false := bf (fun h => (m8 h).1) n7
        have n9 : D 9 = false := bf (m9) n8
        have n10 : D 10 = false := bf (m10) n9
        have g3 := d3 y3
        simp (disch:=omega) only[push_cast,Nat.reduceEqDiff,h2,h5,h6,ht0,ht2q,ht4q,hD,n6,n7,n8,n9,n10,y3,Bool.false_eq_true,if_false,if_true,List.append_nil]
        refine callV en_44 (callX_own (S := fun x L' => ∃ (l1 : List UInt8) (p' : Nat) (ft' : Int),x = str l1 ∧ (0 ≤ ft' → l1 = []) ∧ StepR t ft3 p3 (pQuote t (blP t p3)) (fun y => l1 = y) p' ft' ∧ L' = oRr b5 t p' ft' nv :: oSc b6 (.slice a l.length c) (.slice ya nt.length yc) :: oSc b2 sNil sNil :: ((RN ++ K) ++ R)) (fun w' hw' => textR_walk wb w' b5 t p3 ft3 nv _ ht2 g3.2.2.1 g3.2.two hb5 hw') (fun v9 L9 hv9 => ?_))
        (refine Exists.elim (hv9) (fun kk hz => Exists.elim hz (fun pp hz => Exists.elim hz (fun ff hz => ?_))); have ez := hz.1; subst ez; have hkk := hz.2.1; have hmm := hz.2.2.1; have ez := hz.2.2.2; subst ez; clear hz)
        simp (disch:=omega) only[push_cast,Nat.reduceEqDiff,h2,h5,h6,ht0,ht2q,ht4q,hD,n6,n7,n8,n9,n10,y3,Bool.false_eq_true,if_false,if_true,List.append_nil]
        exact ⟨_,fun w hw => hw,rfl,by simpa [upd] using h2,by simpa [upd] using h5,by simpa [upd] using h6,by simpa [upd] using ht0,by simpa [upd] using ht2q,by simpa [upd] using ht4q,fun h => by simpa [upd] using d1 (by simpa using h),fun _ => by simp [hD,n6,n7,n8,n9,n10,y3],fun h => by simp [n6] at h,fun h => by simp [n7] at h,fun h => by simp [n8] at h,fun h => by simp [n9] at h,fun h => by simp [n10] at h,⟨k1,kk,p3,ft3,pp,ff,b9,za,zc,R5,fun h => by simpa [upd] using d3 (by simpa using h),fun _ => ⟨by simp [upd],hmm⟩,fun h => by simp [n6] at h,fun h => by simp [n7] at h,fun h => by simp [n8] at h,fun h => by simp [n9] at h,by simp [hD,n6,n7,n8,n9,n10,y3]⟩⟩
      · have y5 := hdep
        have y3 := m5 y5
        have n7 : D 7 = false := bf (m7) hD
        have n8 : D 8 = false := bf (fun h => (m8 h).1) n7
        have n9 : D 9 = false := bf (m9) n8
        have n10 : D 10 = false := bf (m10) n9
        have g3 := (d3 y3).1
        have g5 := (d5 y5).1
        simp (disch:=omega) only[push_cast,Nat.reduceEqDiff,g3,g5,h2,h5,h6,ht0,ht2q,ht4q,hD,n7,n8,n9,n10,y5,y3,Bool.false_eq_true,if_false,if_true,List.append_nil]
        exact ⟨_,fun w hw => hw,rfl,by simpa [upd] using h2,by simpa [upd] using h5,by simpa [upd] using h6,by simpa [upd] using ht0,by simpa [upd] using ht2q,by simpa [upd] using ht4q,fun h => by simpa [upd] using d1 (by simpa using h),fun _ => by simp [hD,n7,n8,n9,n10,y5,y3],fun _ => by simp [hD,n7,n8,n9,n10,y5,y3],fun h => by simp [n7] at h,fun h => by simp [n8] at h,fun h => by simp [n9] at h,fun h => by simp [n10] at h,⟨k1,k2,p3,ft3,p4,ft4,b9,za,zc,R5,fun h => by simpa [upd] using d3 (by simpa using h),fun h => by simpa [upd] using d5 (by simpa using h),fun _ => by simp [upd],fun h => by simp [n7] at h,fun h => by simp [n8] at h,fun h => by simp [n9] at h,by simp [hD,n7,n8,n9,n10,y5,y3]⟩⟩
      · have y6 := hdep
        have y5 := m6 y6
        have y3 := m5 y5
        have n8 : D 8 = false := bf (fun h => (m8 h).1) hD
        have n9 : D 9 = false := bf (m9) n8
        have n10 : D 10 = false := bf (m10) n9
        have g6 := d6 y6
        simp (disch:=omega) only[push_cast,Nat.reduceEqDiff,g6,h2,h5,h6,ht0,ht2q,ht4q,hD,n8,n9,n10,y6,y5,y3,Bool.false_eq_true,if_false,if_true,List.append_nil]
        refine bs_25_1 (newI fun b10 hb10 hn10 => ?_)
        simp (disch:=omega) only[push_cast,Nat.reduceEqDiff,h2,h5,h6,ht0,ht2q,ht4q,hD,n8,n9,n10,y6,y5,y3,Bool.false_eq_true,if_false,if_true,List.append_nil]
        refine ⟨oRr b5 t p4 ft4 nv :: oSc b6 (.slice a l.length c) (.slice ya nt.length yc) :: oSc b2 sNil sNil :: ((RN ++ K) ++ (R ++ [(b10,Obj.cells #[str k1,str k2] 90 (0,0))])),fun w hw => hw.perm (permC (fun f => by simp only [wt_append,wt_cons,wt_nil] <;> omega) : List.Perm ((b10,Obj.cells #[str k1,str k2] 90 (0,0)) :: oRr b5 t p4 ft4 nv :: oSc b6 (.slice a l.length c) (.slice ya nt.length yc) :: oSc b2 sNil sNil :: ((RN ++ K) ++ R)) (oRr b5 t p4 ft4 nv :: oSc b6 (.slice a l.length c) (.slice ya nt.length yc) :: oSc b2 sNil sNil :: ((RN ++ K) ++ (R ++ [(b10,Obj.cells #[str k1,str k2] 90 (0,0))])))),rfl,by simpa [upd] using h2,by simpa [upd] using h5,by simpa [upd] using h6,by simpa [upd] using ht0,by simpa [upd] using ht2q,by simpa [upd] using ht4q,fun h => by simpa [upd] using d1 (by simpa using h),fun _ => by simp [hD,n8,n9,n10,y6,y5,y3],fun _ => by simp [hD,n8,n9,n10,y6,y5,y3],fun _ => by simp [hD,n8,n9,n10,y6,y5,y3],fun h => by simp [n8] at h,fun h => by simp [n9] at h,fun h => by simp [n10] at h,⟨k1,k2,p3,ft3,p4,ft4,b10,za,zc,R5,fun h => by simpa [upd] using d3 (by simpa using h),fun h => by simpa [upd] using d5 (by simpa using h),fun h => by simpa [upd] using d6 (by simpa using h),fun _ => ⟨by simp [upd],hb10⟩,fun h => by simp [n8] at h,fun h => by simp [n9] at h,by simp [hD,n8,n9,n10,y6,y5,y3]⟩⟩
      · have y1 := hdep.1
        have y7 := hdep.2
        have y6 := m7 y7
        have y5 := m6 y6
        have y3 := m5 y5
        have n9 : D 9 = false := bf (m9) hD
        have n10 : D 10 = false := bf (m10) n9
        have g1 := d1 y1
        have g7 := d7 y7
        simp (disch:=omega) only[push_cast,Nat.reduceEqDiff,g1,g7.1,h2,h5,h6,ht0,ht2q,ht4q,hD,n9,n10,y7,y6,y5,y3,y1,Bool.false_eq_true,if_false,if_true,List.append_nil]
        refine valX_weak (L' := R ++ ((b9,Obj.cells #[str k1,str k2] 90 (0,0)) :: oRr b5 t p4 ft4 nv :: oSc b6 (.slice a l.length c) (.slice ya nt.length yc) :: oSc b2 sNil sNil :: (RN ++ K))) (fun w hw => hw.perm (permC (fun f => by simp only [wt_append,wt_cons,wt_nil] <;> omega) : List.Perm (oRr b5 t p4 ft4 nv :: oSc b6 (.slice a l.length c) (.slice ya nt.length yc) :: oSc b2 sNil sNil :: ((RN ++ K) ++ (R ++ [(b9,Obj.cells #[str k1,str k2] 90 (0,0))]))) (R ++ ((b9,Obj.cells #[str k1,str k2] 90 (0,0)) :: oRr b5 t p4 ft4 nv :: oSc b6 (.slice a l.length c) (.slice ya nt.length yc) :: oSc b2 sNil sNil :: (RN ++ K))))) (appendI un_25 infoNote rfl (m := 1) (news := [str k1,str k2]) (RowO.frame hR) rfl (CanRead.of_own (e := 90) (b := b9) (cs := [str k1,str k2]) (n := 2) (List.mem_append_right _ (.head _)) rfl rfl) (by simp [Value.oneCell']) (by simp only [maxLen]; omega) (by first | omega | simp) (fun v5 L5 hro5 _ => ?_))
        (refine Exists.elim (RowO.unframe hro5) (fun R7 hz => ?_); have ez := hz.1; subst ez; have hR7 := hz.2; clear hz)
        obtain ⟨za7,zc7,hv7⟩ := hR7.is_slice
        subst hv7
        simp (disch:=omega) only[push_cast,Nat.reduceEqDiff,h2,h5,h6,ht0,ht2q,ht4q,hD,n9,n10,y7,y6,y5,y3,y1,Bool.false_eq_true,if_false,if_true,List.append_nil]
        refine ⟨oRr b5 t p4 ft4 nv :: oSc b6 (.slice a l.length c) (.slice ya nt.length yc) :: oSc b2 sNil sNil :: ((RN ++ K) ++ R7),fun w hw => Sy.left (A := [(b9,Obj.cells #[str k1,str k2] 90 (0,0))]) (hw.perm (permC (fun f => by simp only [wt_append,wt_cons,wt_nil] <;> omega) : List.Perm (R7 ++ ((b9,Obj.cells #[str k1,str k2] 90 (0,0)) :: oRr b5 t p4 ft4 nv :: oSc b6 (.slice a l.length c) (.slice ya nt.length yc) :: oSc b2 sNil sNil :: (RN ++ K))) ([(b9,Obj.cells #[str k1,str k2] 90 (0,0))] ++ (oRr b5 t p4 ft4 nv :: oSc b6 (.slice a l.length c) (.slice ya nt.length yc) :: oSc b2 sNil sNil :: ((RN ++ K) ++ R7))))) (fun b hb => by rw [List.mem_singleton.1 hb]; exact g7.2),rfl,by simpa [upd] using h2,by simpa [upd] using h5,by simpa [upd] using h6,by simpa [upd] using ht0,by simpa [upd] using ht2q,by simpa [upd] using ht4q,fun h => by simpa [upd] using d1 (by simpa using h),fun _ => by simp [hD,n9,n10,y7,y6,y5,y3,y1],fun _ => by simp [hD,n9,n10,y7,y6,y5,y3,y1],fun _ => by simp [hD,n9,n10,y7,y6,y5,y3,y1],fun _ => by simp [hD,n9,n10,y7,y6,y5,y3,y1],fun h => by simp [n9] at h,fun h => by simp [n10] at h,⟨k1,k2,p3,ft3,p4,ft4,b9,za7,zc7,R7,fun h => by simpa [upd] using d3 (by simpa using h),fun h => by simpa [upd] using d5 (by simpa using h),fun h => by simpa [upd] using d6 (by simpa using h),fun h => by simpa [upd] using d7 (by simpa using h),fun _ => ⟨by simp [upd],hR7⟩,fun h => by simp [n9] at h,by simp [hD,n9,n10,y7,y6,y5,y3,y1]⟩⟩
      · have y8 := hdep
        have y7 := (m8 y8).1
        have y1 := (m8 y8).2
        have y6 := m7 y7
        have y5 := m6 y6
        have y3 := m5 y5
        have n10 : D 10 = false := bf (m10) hD
        simp (disch:=omega) only[push_cast,Nat.reduceEqDiff,h2,h5,h6,ht0,ht2q,ht4q,hD,n10,y8,y7,y1,y6,y5,y3,Bool.false_eq_true,if_false,if_true,List.append_nil]
        exact ⟨_,fun w hw => hw,rfl,by simpa [upd] using h2,by simpa [upd] using h5,by simpa [upd] using h6,by simpa [upd] using ht0,by simpa [upd] using ht2q,by simpa [upd] using ht4q,fun h => by simpa [upd] using d1 (by simpa using h),fun _ => by simp [hD,n10,y8,y7,y1,y6,y5,y3],fun _ => by simp [hD,n10,y8,y7,y1,y6,y5,y3],fun _ => by simp [hD,n10,y8,y7,y1,y6,y5,y3],fun _ => by simp [hD,n10,y8,y7,y1,y6,y5,y3],fun _ => by simp [hD,n10,y8,y7,y1,y6,y5,y3],fun h => by simp [n10] at h,⟨k1,k2,p3,ft3,p4,ft4,b9,za,zc,R5,fun h => by simpa [upd] using d3 (by simpa using h),fun h => by simpa [upd] using d5 (by simpa using h),fun h => by simpa [upd] using d6 (by simpa using h),fun h => by simpa [upd] using d7 (by simpa using h),fun h => by simpa [upd] using d8 (by simpa using h),fun _ => by simp [upd],by simp [hD,n10,y8,y7,y1,y6,y5,y3]⟩⟩
      · have y9 := hdep
        have y8 := m9 y9
        have y7 := (m8 y8).1
        have y1 := (m8 y8).2
        have y6 := m7 y7
        have y5 := m6 y6
        have y3 := m5 y5
        have g8 := d8 y8
        have g9 := d9 y9
        simp (disch:=omega) only[push_cast,Nat.reduceEqDiff,g8.1,g9,h2,h5,h6,ht0,ht2q,ht4q,hD,y9,y8,y7,y1,y6,y5,y3,Bool.false_eq_true,if_false,if_true,List.append_nil]
        refine storeX_weak (L' := oSc b6 (.slice a l.length c) (.slice ya nt.length yc) :: oRr b5 t p4 ft4 nv :: oSc b2 sNil sNil :: ((RN ++ K) ++ R5)) (fun w hw => hw.perm (permC (fun f => by simp only [wt_append,wt_cons,wt_nil] <;> omega) : List.Perm (oRr b5 t p4 ft4 nv :: oSc b6 (.slice a l.length c) (.slice ya nt.length yc) :: oSc b2 sNil sNil :: ((RN ++ K) ++ R5)) (oSc b6 (.slice a l.length c) (.slice ya nt.length yc) :: oRr b5 t p4 ft4 nv :: oSc b2 sNil sNil :: ((RN ++ K) ++ R5)))) (storeX 0 rfl Siz.eq rfl rfl (by simp [Value.oneCell']) (by simp) ?_)
        simp (disch:=omega) only[push_cast,Nat.reduceEqDiff,h2,h5,h6,ht0,ht2q,ht4q,hD,y9,y8,y7,y1,y6,y5,y3,Bool.false_eq_true,if_false,if_true,List.append_nil]
        refine ⟨oRr b5 t p4 ft4 nv :: oSc b6 (.slice a l.length c) (.slice za (nt.length + 1) zc) :: oSc b2 sNil sNil :: ((RN ++ K) ++ R5),fun w hw => hw.perm (permC (fun f => by simp only [wt_append,wt_cons,wt_nil] <;> omega) : List.Perm (oSc b6 (.slice a l.length c) (.slice za (nt.length + 1) zc) :: oRr b5 t p4 ft4 nv :: oSc b2 sNil sNil :: ((RN ++ K) ++ R5)) (oRr b5 t p4 ft4 nv :: oSc b6 (.slice a l.length c) (.slice za (nt.length + 1) zc) :: oSc b2 sNil sNil :: ((RN ++ K) ++ R5))),rfl,by simpa [upd] using h2,by simpa [upd] using h5,by simpa [upd] using h6,by simpa [upd] using ht0,by simpa [upd] using ht2q,by simpa [upd] using ht4q,fun h => by simpa [upd] using d1 (by simpa using h),fun _ => by simp [hD,y9,y8,y7,y1,y6,y5,y3],fun _ => by simp [hD,y9,y8,y7,y1,y6,y5,y3],fun _ => by simp [hD,y9,y8,y7,y1,y6,y5,y3],fun _ => by simp [hD,y9,y8,y7,y1,y6,y5,y3],fun _ => by simp [hD,y9,y8,y7,y1,y6,y5,y3],fun _ => by simp [hD,y9,y8,y7,y1,y6,y5,y3],⟨k1,k2,p3,ft3,p4,ft4,b9,za,zc,R5,fun h => by simpa [upd] using d3 (by simpa using h),fun h => by simpa [upd] using d5 (by simpa using h),fun h => by simpa [upd] using d6 (by simpa using h),fun h => by simpa [upd] using d7 (by simpa using h),fun h => by simpa [upd] using d8 (by simpa using h),fun h => by simpa [upd] using d9 (by simpa using h),by simp [hD,y9,y8,y7,y1,y6,y5,y3]⟩⟩
    · intro D e ds L hD hI
      obtain ⟨rfl,h2,h5,h6,ht0,ht2q,ht4q,d1,m5,m6,m7,m8,m9,m10,k1,k2,p3,ft3,p4,ft4,b9,za,zc,R5,d3,d5,d6,d7,d8,d9,rfl⟩ := hI
      have y3 := hD 3 (by simp)
      have y5 := hD 5 (by simp)
      have y7 := hD 7 (by simp)
      have y8 := hD 8 (by simp)
      have y10 := hD 10 (by simp)
      have g3 := (d3 y3).2
      have g5 := (d5 y5).2
      have g8 := (d8 y8).2
      have hlt5 := quote_lt g3.2.1 g5
      have hlt6 := g3.1
      have hnl : (nt ++ [(k1,k2)]).length ≤ p4 + 1 := by
        rw [List.length_append,List.length_singleton]
        have := g3.1
        have : p3 ≤ p4 := g5.1
        have : (nt).length ≤ (blP t i + 1) := by first | omega | simp
        omega
      have hR8 : RowO wb 90 2 R5 [] (.slice za (nt ++ [(k1,k2)]).length zc) (nt ++ [(k1,k2)]).length (noteCs (nt ++ [(k1,k2)])) := by
        rw [List.length_append,List.length_singleton]
        exact g8.cast rfl (by simp [noteCs])
      have hln : LnR t (-1) (pTail t (blP t p)) p4 ft4 (nt ++ [(k1,k2)]) := LnR.step (ft := -1) (m := m) (by omega) (fun h => ⟨h,by rw [hT,htl]⟩) (fun h => by omega) (.inl rfl) g3 g5 (fun h => by have := hlt5 h; omega)
      refine ⟨p4,oRr b5 t p4 ft4 nv :: oSc b6 (.slice a l.length c) (.slice za (nt ++ [(k1,k2)]).length zc) :: oSc b2 sNil sNil :: ((RN ++ K) ++ R5),fun w hw => ?_,⟨rfl,rfl,h2,h5,h6,?_,g5.2.1,(nt ++ [(k1,k2)]),za,zc,R5,ft4,hR8,hnl,hln,rfl⟩,?_⟩
      · rw [List.length_append,List.length_singleton]
        simpa only [y3,y5,y7,y8,y10,if_true,List.append_nil] using hw
      · show p ≤ p4
        have := g3.1
        have : p3 ≤ p4 := g5.1
        omega
      · show t.length - p4 < t.length - i
        have := g3.1
        have : p3 ≤ p4 := g5.1
        have := g5.2.1
        omega
    · simp (disch:=omega) only[push_cast,Nat.reduceEqDiff,h2,h5,h6]
      exact ⟨rfl,h2,h5,h6,rfl,rfl,rfl,fun h => by simp at h,fun h => by simp at h,fun h => by simp at h,fun h => by simp at h,fun h => by simp at h,fun h => by simp at h,fun h => by simp at h,⟨[],[],0,0,0,0,0,none,0,[],fun h => by simp at h,fun h => by simp at h,fun h => by simp at h,fun h => by simp at h,fun h => by simp at h,fun h => by simp at h,by simp⟩⟩
  clear hst hL hK hO hN hNl h2 h5 h6
  rintro wb e ds L ⟨rfl,rfl,h2,h5,h6,l,a,c,K,p1,ft1,N,nv,RN,nt,yv,R,p,ft,hO,hN,hNl,hK,hR,hst,hst2,hL⟩
  have hRNn : ∀ b ∈ RN,wb.heap.size ≤ b.1 := RowO.new hN (by simp)
  have hRn : ∀ b ∈ R,wb.heap.size ≤ b.1 := RowO.new hR (by simp)
  obtain ⟨na,nc,rfl,hON⟩ := row_notes hR
  obtain ⟨an,cn,rfl⟩ := hN.is_slice
  simp (disch:=omega) only[push_cast,Nat.reduceEqDiff,h2,h5,h6]
  refine callV en_45 (callX_weak (L' := oRr b5 t p ft (.slice an N.length cn) :: (oSc b6 (.slice a l.length c) (.slice na nt.length nc) :: oSc b2 sNil sNil :: (RN ++ (K ++ R)))) hL (callX_own (S := fun x L' => x = .tuple #[] ∧ ∃ (p' : Nat) (ft' : Int),StepR t ft p (pEnd t () (blP t p)) (fun _ => True) p' ft' ∧ L' = oRr b5 t p' ft' (.slice an N.length cn) :: (oSc b6 (.slice a l.length c) (.slice na nt.length nc) :: oSc b2 sNil sNil :: (RN ++ (K ++ R)))) (fun w' hw' => endR_walk wb w' b5 t p ft _ _ ht2 hst2.2.1 hst2.two hb5 hw') (fun v9 L9 hv9 => ?_)))
  have hv9a := hv9.1
  have hv9b := hv9.2
  clear hv9
  subst hv9a
  (refine Exists.elim (hv9b) (fun pe hz => Exists.elim hz (fun fe hz => ?_)); have hse := hz.1; have ez := hz.2; subst ez; clear hz)
  have hfin := fin_of hst hst2 hse
  have hfe : fe = -1 ∨ 0 ≤ fe := hse.two
  simp (disch:=omega) only[push_cast,Nat.reduceEqDiff,h2,h5,h6]
  refine ldOne Shp.eq mem0 rfl ?_
  simp (disch:=omega) only[push_cast,Nat.reduceEqDiff,h2,h5,h6]
  rw [V_cond]
  simp (disch:=omega) only[push_cast,Nat.reduceEqDiff,h2,h5,h6]
  have hLs : ∀ (o2 : Obj),∀ b ∈ oSc b6 (.slice a l.length c) (.slice na nt.length nc) :: (b2,o2) :: (RN ++ (K ++ R)),wb.heap.size ≤ b.1 := fun o2 b hb => by
    simp only [List.mem_cons,List.mem_append] at hb
    rcases hb with rfl | rfl | hb | hb | hb
    · exact hb6
    · exact hb2
    · exact hRNn b hb
    · exact hK b hb
    · exact hRn b hb
  refine condX_d (fun hbad => ?_) (fun hgood => ?_)
  · obtain ⟨q8,hq8,hfq⟩ : ∃ q : Nat,pSchema t = .no q ∧ fe = q := by
      rcases hfin with ⟨_,h⟩ | ⟨h,_⟩
      · exact h
      · omega
    have hr8 : parseP t = ⟨[],[],8,q8⟩ := by
      unfold parseP
      rw [if_neg (by omega),hq8]
    have hsb : ∀ (o2 : Obj),Stab wb (oRr b5 t pe fe (.slice an N.length cn) :: oSc b6 (.slice a l.length c) (.slice na nt.length nc) :: (b2,o2) :: (RN ++ (K ++ R))) [oRr b5 t pe fe (.slice an N.length cn)] := fun o2 => Stab.of (.cons_cons _ (List.nil_sublist _)) (fun b hb => by
      rcases List.mem_cons.1 hb with rfl | hb
      · exact hb5
      · exact hLs o2 b hb)
    simp (disch:=omega) only[push_cast,Nat.reduceEqDiff,h2,h5,h6]
    refine freeT [0,1,2,3,4] [5,6,7] [oRr b5 t pe fe (.slice an N.length cn)] (by kernel_rfl) mixed (by kernel_rfl) (hsb _) ?_
    simp (disch:=omega) only[push_cast,Nat.reduceEqDiff,h2,h5,h6]
    refine ldOne Shp.eq mem0 rfl ?_
    simp (disch:=omega) only[push_cast,Nat.reduceEqDiff,h2,h5,h6]
    refine storeX 2 rfl Siz.eq rfl rfl (by simp [Value.oneCell']) (by simp) ?_
    simp (disch:=omega) only[push_cast,Nat.reduceEqDiff,h2,h5,h6]
    refine ⟨hsb _,hsb _,hsb _,loadX_agg Shp.eq mem2 rfl rfl ?_⟩
    simp (disch:=omega) only[push_cast,Nat.reduceEqDiff,h2,h5,h6]
    rw [hr8,hfq]
    exact fun w2 hw2 => ⟨_,[],rfl,hw2.end (fun b hb => by
      rcases List.mem_cons.1 hb with rfl | hb
      · exact hb5
      · exact hLs _ b hb),by simp,none,0,none,0,[],[],[],rfl,rfl,own_nil,ownN_nil⟩
  simp (disch:=omega) only[push_cast,Nat.reduceEqDiff,h2,h5,h6]
  have hfe1 : fe = -1 := by omega
  subst hfe1
  obtain ⟨xs,r0,r1,r2,hps,rfl,rfl,hpH,hpT⟩ : ∃ (xs : List Fz) (r r1 r2 : Nat),pSchema t = .ok (xs,nt) r ∧ l = xs.map (·.1) ∧ N = preL (xs.map (·.2)) ∧ pHead t (blP t 0) = .ok xs r1 ∧ pTail t r1 = .ok nt r2 := by
    rcases hfin with ⟨h,_⟩ | ⟨_,h⟩
    · omega
    · exact h
  have hnl := pTail_len hpT
  have hlk := likeL_map (pHead_like hpH)
  have hcl : cL (xs.map (·.1)) ≤ 65536 := by rw [← pre_lenL _ _ hlk]; exact hNl
  refine loadX_agg Shp.eq mem1 rfl rfl ?_
  simp (disch:=omega) only[push_cast,Nat.reduceEqDiff,h2,h5,h6]
  have hLc : ∀ b ∈ oRr b5 t pe (-1) (.slice an (preL (xs.map (·.2))).length cn) :: oSc b6 (.slice a (xs.map (·.1)).length c) (.slice na nt.length nc) :: oSc b2 sNil sNil :: (RN ++ (K ++ R)),wb.heap.size ≤ b.1 := fun b hb => by
    rcases List.mem_cons.1 hb with rfl | hb
    · exact hb5
    · exact hLs _ b hb
  refine callV en_24 (callX_new (S := fun v M => wrongFault v M (checkP (xs.map (·.1)) nt)) (fun w' hw' => checkR_walk w' w'.heap.size (Nat.le_refl _) _ a c (hO.rd hw' (fun q hq => .tail _ (.tail _ (.tail _ (List.mem_append_right _ (List.mem_append_left _ hq)))))) hO.le.1 hO.le.2 nt na nc (hON.rdn (fun n hn => ⟨by have := (hnl n hn).1; omega,by have := (hnl n hn).2; omega⟩) hw' (fun q hq => .tail _ (.tail _ (.tail _ (List.mem_append_right _ (List.mem_append_right _ hq)))))) hON.le.1 hON.le.2) (fun v M8 hM8 hn8 hS8 => ?_))
  refine Exists.elim hS8 (fun pa h8 => Exists.elim h8 (fun pc h8 => ?_))
  have hv8 := h8.1
  subst hv8
  simp (disch:=omega) only[push_cast,Nat.reduceEqDiff,h2,h5,h6]
  refine newI (fun b8 hb8 hn8 => ?_)
  simp (disch:=omega) only[push_cast,Nat.reduceEqDiff,h2,h5,h6]
  refine storeX 0 rfl Siz.eq rfl rfl (by simp [Value.oneCell']) (by simp) ?_
  simp (disch:=omega) only[push_cast,Nat.reduceEqDiff,h2,h5,h6]
  refine ldOne Shp.eq mem0 rfl ?_
  simp (disch:=omega) only[push_cast,Nat.reduceEqDiff,h2,h5,h6]
  rw [V_cond]
  simp (disch:=omega) only[push_cast,Nat.reduceEqDiff,h2,h5,h6]
  refine condX_d (fun heq => ?_) (fun hne => ?_)
  · have hc0 : (checkP (xs.map (·.1)) nt).1 = 0 := by omega
    have hr0 : parseP t = ⟨xs.map (·.1),nt,0,0⟩ := by
      unfold parseP
      rw [if_neg (by omega),hps]
      simp only
      rw [if_pos hc0]
    simp (disch:=omega) only[push_cast,Nat.reduceEqDiff,h2,h5,h6]
    refine loadX_agg Shp.eq (.tail _ (List.mem_append_right _ mem1)) rfl rfl ?_
    simp (disch:=omega) only[push_cast,Nat.reduceEqDiff,h2,h5,h6]
    refine storeX_weak (L' := oSc b2 sNil sNil :: (b8,Obj.cells #[i64 (checkP (xs.map (·.1)) nt).1,.slice pa (checkP (xs.map (·.1)) nt).2.1.length pc,i64 (checkP (xs.map (·.1)) nt).2.2] 51 (0,0)) :: oRr b5 t pe (-1) (.slice an (preL (xs.map (·.2))).length cn) :: oSc b6 (.slice a (xs.map (·.1)).length c) (.slice na nt.length nc) :: (M8 ++ (RN ++ (K ++ R)))) (fun w hw => hw.perm (permC (fun f => by simp only [wt_append,wt_cons,wt_nil]; omega) : List.Perm ((b8,Obj.cells #[i64 (checkP (xs.map (·.1)) nt).1,.slice pa (checkP (xs.map (·.1)) nt).2.1.length pc,i64 (checkP (xs.map (·.1)) nt).2.2] 51 (0,0)) :: (M8 ++ (oRr b5 t pe (-1) (.slice an (preL (xs.map (·.2))).length cn) :: oSc b6 (.slice a (xs.map (·.1)).length c) (.slice na nt.length nc) :: oSc b2 sNil sNil :: (RN ++ (K ++ R))))) (oSc b2 sNil sNil :: (b8,Obj.cells #[i64 (checkP (xs.map (·.1)) nt).1,.slice pa (checkP (xs.map (·.1)) nt).2.1.length pc,i64 (checkP (xs.map (·.1)) nt).2.2] 51 (0,0)) :: oRr b5 t pe (-1) (.slice an (preL (xs.map (·.2))).length cn) :: oSc b6 (.slice a (xs.map (·.1)).length c) (.slice na nt.length nc) :: (M8 ++ (RN ++ (K ++ R)))))) (storeX 0 rfl Siz.eq rfl rfl (by simp [Value.oneCell']) (by simp) ?_)
    simp (disch:=omega) only[push_cast,Nat.reduceEqDiff,h2,h5,h6]
    refine loadX_agg Shp.eq mem0 rfl rfl ?_
    simp (disch:=omega) only[push_cast,Nat.reduceEqDiff,h2,h5,h6]
    rw [hr0]
    intro w2 hw2
    refine ⟨_,K ++ (R ++ (oSc b2 (.slice a (xs.map (·.1)).length c) (.slice na nt.length nc) :: (b8,Obj.cells #[i64 (checkP (xs.map (·.1)) nt).1,.slice pa (checkP (xs.map (·.1)) nt).2.1.length pc,i64 (checkP (xs.map (·.1)) nt).2.2] 51 (0,0)) :: oRr b5 t pe (-1) (.slice an (preL (xs.map (·.2))).length cn) :: oSc b6 (.slice a (xs.map (·.1)).length c) (.slice na nt.length nc) :: (M8 ++ RN))),rfl,hw2.perm (permC (fun f => by simp only [wt_append,wt_cons,wt_nil]; omega) : List.Perm (oSc b2 (.slice a (xs.map (·.1)).length c) (.slice na nt.length nc) :: (b8,Obj.cells #[i64 (checkP (xs.map (·.1)) nt).1,.slice pa (checkP (xs.map (·.1)) nt).2.1.length pc,i64 (checkP (xs.map (·.1)) nt).2.2] 51 (0,0)) :: oRr b5 t pe (-1) (.slice an (preL (xs.map (·.2))).length cn) :: oSc b6 (.slice a (xs.map (·.1)).length c) (.slice na nt.length nc) :: (M8 ++ (RN ++ (K ++ R)))) _),fun b hb => ?_,a,c,na,nc,K,R,_,rfl,rfl,hO,hON⟩
    simp only [List.mem_cons,List.mem_append] at hb
    rcases hb with hb | hb | rfl | rfl | rfl | rfl | hb | hb
    · exact hK b hb
    · exact hRn b hb
    · exact hb2
    · exact hb8
    · exact hb5
    · exact hb6
    · exact hM8 b hb
    · exact hRNn b hb
  have hF8 : ∀ (o2 : Obj),∀ b ∈ (b8,Obj.cells #[i64 (checkP (xs.map (·.1)) nt).1,.slice pa (checkP (xs.map (·.1)) nt).2.1.length pc,i64 (checkP (xs.map (·.1)) nt).2.2] 51 (0,0)) :: (M8 ++ (oRr b5 t pe (-1) (.slice an (preL (xs.map (·.2))).length cn) :: oSc b6 (.slice a (xs.map (·.1)).length c) (.slice na nt.length nc) :: (b2,o2) :: (RN ++ (K ++ R)))),wb.heap.size ≤ b.1 := fun o2 b hb => by
    rcases List.mem_cons.1 hb with rfl | hb
    · exact hb8
    rcases List.mem_append.1 hb with hb | hb
    · exact hM8 b hb
    rcases List.mem_cons.1 hb with rfl | hb
    · exact hb5
    · exact hLs o2 b hb
  have hsb : ∀ (o2 : Obj),Stab wb ((b8,Obj.cells #[i64 (checkP (xs.map (·.1)) nt).1,.slice pa (checkP (xs.map (·.1)) nt).2.1.length pc,i64 (checkP (xs.map (·.1)) nt).2.2] 51 (0,0)) :: (M8 ++ (oRr b5 t pe (-1) (.slice an (preL (xs.map (·.2))).length cn) :: oSc b6 (.slice a (xs.map (·.1)).length c) (.slice na nt.length nc) :: (b2,o2) :: (RN ++ (K ++ R))))) ((b8,Obj.cells #[i64 (checkP (xs.map (·.1)) nt).1,.slice pa (checkP (xs.map (·.1)) nt).2.1.length pc,i64 (checkP (xs.map (·.1)) nt).2.2] 51 (0,0)) :: (M8 ++ (oRr b5 t pe (-1) (.slice an (preL (xs.map (·.2))).length cn) :: oSc b6 (.slice a (xs.map (·.1)).length c) (.slice na nt.length nc) :: (RN ++ (K ++ R))))) := fun o2 => Stab.of (.cons_cons _ (.append (List.Sublist.refl _) (.cons_cons _ (.cons_cons _ (.cons _ (List.Sublist.refl _)))))) (hF8 o2)
  simp (disch:=omega) only[push_cast,Nat.reduceEqDiff,h2,h5,h6]
  refine ldOne Shp.eq mem0 rfl ?_
  simp (disch:=omega) only[push_cast,Nat.reduceEqDiff,h2,h5,h6]
  rw [V_cond]
  simp (disch:=omega) only[push_cast,Nat.reduceEqDiff,h2,h5,h6]
  have hc0 : (checkP (xs.map (·.1)) nt).1 ≠ 0 := by omega
  have hQn : ∀ b ∈ ((b8,Obj.cells #[i64 (checkP (xs.map (·.1)) nt).1,.slice pa (checkP (xs.map (·.1)) nt).2.1.length pc,i64 (checkP (xs.map (·.1)) nt).2.2] 51 (0,0)) :: (M8 ++ (oRr b5 t pe (-1) (.slice an (preL (xs.map (·.2))).length cn) :: oSc b6 (.slice a (xs.map (·.1)).length c) (.slice na nt.length nc) :: (RN ++ (K ++ R))))),wb.heap.size ≤ b.1 := fun b hb => hF8 (Obj.cells #[] 0 (0,0)) b (by
    simp only [List.mem_cons,List.mem_append] at hb ⊢
    rcases hb with hb | hb | hb | hb | hb | hb | hb <;> simp [hb])
  have hsc : ∀ (o2 : Obj),Stab wb ((b2,o2) :: ((b8,Obj.cells #[i64 (checkP (xs.map (·.1)) nt).1,.slice pa (checkP (xs.map (·.1)) nt).2.1.length pc,i64 (checkP (xs.map (·.1)) nt).2.2] 51 (0,0)) :: (M8 ++ (oRr b5 t pe (-1) (.slice an (preL (xs.map (·.2))).length cn) :: oSc b6 (.slice a (xs.map (·.1)).length c) (.slice na nt.length nc) :: (RN ++ (K ++ R)))))) ((b8,Obj.cells #[i64 (checkP (xs.map (·.1)) nt).1,.slice pa (checkP (xs.map (·.1)) nt).2.1.length pc,i64 (checkP (xs.map (·.1)) nt).2.2] 51 (0,0)) :: (M8 ++ (oRr b5 t pe (-1) (.slice an (preL (xs.map (·.2))).length cn) :: oSc b6 (.slice a (xs.map (·.1)).length c) (.slice na nt.length nc) :: (RN ++ (K ++ R))))) := fun o2 => Stab.of (.cons _ (List.Sublist.refl _)) (fun b hb => by
    rcases List.mem_cons.1 hb with rfl | hb
    · exact hb2
    · exact hQn b hb)
  refine condX_d (fun hp0 => ?_) (fun hp1 => ?_)
  · have hnil : (checkP (xs.map (·.1)) nt).2.1 = [] := List.eq_nil_of_length_eq_zero (by omega)
    have hr8 : parseP t = ⟨[],[],(checkP (xs.map (·.1)) nt).1,0⟩ := by
      unfold parseP
      rw [if_neg (by omega),hps]
      simp only
      rw [if_neg hc0,hnil,foundP]
    simp (disch:=omega) only[push_cast,Nat.reduceEqDiff,h2,h5,h6]
    refine freeT [0,1,2] [3,4,5] ((b8,Obj.cells #[i64 (checkP (xs.map (·.1)) nt).1,.slice pa (checkP (xs.map (·.1)) nt).2.1.length pc,i64 (checkP (xs.map (·.1)) nt).2.2] 51 (0,0)) :: (M8 ++ (oRr b5 t pe (-1) (.slice an (preL (xs.map (·.2))).length cn) :: oSc b6 (.slice a (xs.map (·.1)).length c) (.slice na nt.length nc) :: (RN ++ (K ++ R))))) (by kernel_rfl) mixed (by kernel_rfl) (hsb _) ?_
    simp (disch:=omega) only[push_cast,Nat.reduceEqDiff,h2,h5,h6]
    refine ldOne Shp.eq mem0 rfl ?_
    simp (disch:=omega) only[push_cast,Nat.reduceEqDiff,h2,h5,h6]
    refine storeX_weak (L' := oSc b2 sNil sNil :: ((b8,Obj.cells #[i64 (checkP (xs.map (·.1)) nt).1,.slice pa (checkP (xs.map (·.1)) nt).2.1.length pc,i64 (checkP (xs.map (·.1)) nt).2.2] 51 (0,0)) :: (M8 ++ (oRr b5 t pe (-1) (.slice an (preL (xs.map (·.2))).length cn) :: oSc b6 (.slice a (xs.map (·.1)).length c) (.slice na nt.length nc) :: (RN ++ (K ++ R)))))) (fun w hw => hw.perm (permC (fun f => by simp only [wt_append,wt_cons,wt_nil]; omega) : List.Perm ((b8,Obj.cells #[i64 (checkP (xs.map (·.1)) nt).1,.slice pa (checkP (xs.map (·.1)) nt).2.1.length pc,i64 (checkP (xs.map (·.1)) nt).2.2] 51 (0,0)) :: (M8 ++ (oRr b5 t pe (-1) (.slice an (preL (xs.map (·.2))).length cn) :: oSc b6 (.slice a (xs.map (·.1)).length c) (.slice na nt.length nc) :: oSc b2 sNil sNil :: (RN ++ (K ++ R))))) (oSc b2 sNil sNil :: ((b8,Obj.cells #[i64 (checkP (xs.map (·.1)) nt).1,.slice pa (checkP (xs.map (·.1)) nt).2.1.length pc,i64 (checkP (xs.map (·.1)) nt).2.2] 51 (0,0)) :: (M8 ++ (oRr b5 t pe (-1) (.slice an (preL (xs.map (·.2))).length cn) :: oSc b6 (.slice a (xs.map (·.1)).length c) (.slice na nt.length nc) :: (RN ++ (K ++ R)))))))) (storeX 0 rfl Siz.eq rfl rfl (by simp [Value.oneCell']) (by simp) ?_)
    simp (disch:=omega) only[push_cast,Nat.reduceEqDiff,h2,h5,h6]
    refine ⟨hsc _,hsc _,hsc _,loadX_agg Shp.eq mem0 rfl rfl ?_⟩
    simp (disch:=omega) only[push_cast,Nat.reduceEqDiff,h2,h5,h6]
    rw [hr8]
    exact fun w2 hw2 => ⟨_,[],rfl,hw2.end (fun b hb => by
      rcases List.mem_cons.1 hb with rfl | hb
      · exact hb2
      · exact hQn b hb),by simp,none,0,none,0,[],[],[],rfl,rfl,own_nil,ownN_nil⟩
  have hr8 : parseP t = ⟨[],[],(checkP (xs.map (·.1)) nt).1,foundP (xs.map (·.2)) (checkP (xs.map (·.1)) nt).2.1 0⟩ := by
    unfold parseP
    rw [if_neg (by omega),hps]
    simp only
    rw [if_neg hc0]
  have hok : okW (xs.map (·.2)) (checkP (xs.map (·.1)) nt).2.1 := check_way hlk
  have hpl := okW_len _ _ _ hlk hok
  simp (disch:=omega) only[push_cast,Nat.reduceEqDiff,h2,h5,h6]
  refine freeT [0,1,2,3,4,5,6,7,8,9] [10,11,12,13] ((b8,Obj.cells #[i64 (checkP (xs.map (·.1)) nt).1,.slice pa (checkP (xs.map (·.1)) nt).2.1.length pc,i64 (checkP (xs.map (·.1)) nt).2.2] 51 (0,0)) :: (M8 ++ (oRr b5 t pe (-1) (.slice an (preL (xs.map (·.2))).length cn) :: oSc b6 (.slice a (xs.map (·.1)).length c) (.slice na nt.length nc) :: (RN ++ (K ++ R))))) (by kernel_rfl) mixed (by kernel_rfl) (hsb _) ?_
  simp (disch:=omega) only[push_cast,Nat.reduceEqDiff,h2,h5,h6]
  refine ldOne Shp.eq mem0 rfl ?_
  simp (disch:=omega) only[push_cast,Nat.reduceEqDiff,h2,h5,h6]
  refine loadX_agg Shp.eq (.tail _ (List.mem_append_right _ mem1)) rfl rfl ?_
  simp (disch:=omega) only[push_cast,Nat.reduceEqDiff,h2,h5,h6]
  refine ldOne Shp.eq (.tail _ (List.mem_append_right _ mem0)) rfl ?_
  simp (disch:=omega) only[push_cast,Nat.reduceEqDiff,h2,h5,h6]
  refine ldOne Shp.eq mem0 rfl ?_
  simp (disch:=omega) only[push_cast,Nat.reduceEqDiff,h2,h5,h6]
  refine callV en_46 (callX_is (v := i64 (foundP (xs.map (·.2)) (checkP (xs.map (·.1)) nt).2.1 0)) (fun w' hw' => place_walk w' w'.heap.size (Nat.le_refl _) _ a c na nt.length nc _ an cn pa _ pc (xs.map (·.2)) (hO.rd hw' (fun q hq => by simp [hq])) hO.le.1 hO.le.2 (natsAt_rowO hw' (fun q hq => by simp [hq]) hN) rfl (natsAt_row hw' (fun q hq => by simp [hq]) h8.2.1).1 (by omega) hlk hok (fun h => hp1 (by rw [h]; rfl)) (by omega)) ?_)
  simp (disch:=omega) only[push_cast,Nat.reduceEqDiff,h2,h5,h6]
  refine ⟨hsb _,?_⟩
  refine storeX_weak (L' := oSc b2 sNil sNil :: ((b8,Obj.cells #[i64 (checkP (xs.map (·.1)) nt).1,.slice pa (checkP (xs.map (·.1)) nt).2.1.length pc,i64 (checkP (xs.map (·.1)) nt).2.2] 51 (0,0)) :: (M8 ++ (oRr b5 t pe (-1) (.slice an (preL (xs.map (·.2))).length cn) :: oSc b6 (.slice a (xs.map (·.1)).length c) (.slice na nt.length nc) :: (RN ++ (K ++ R)))))) (fun w hw => hw.perm (permC (fun f => by simp only [wt_append,wt_cons,wt_nil]; omega) : List.Perm ((b8,Obj.cells #[i64 (checkP (xs.map (·.1)) nt).1,.slice pa (checkP (xs.map (·.1)) nt).2.1.length pc,i64 (checkP (xs.map (·.1)) nt).2.2] 51 (0,0)) :: (M8 ++ (oRr b5 t pe (-1) (.slice an (preL (xs.map (·.2))).length cn) :: oSc b6 (.slice a (xs.map (·.1)).length c) (.slice na nt.length nc) :: oSc b2 sNil sNil :: (RN ++ (K ++ R))))) (oSc b2 sNil sNil :: ((b8,Obj.cells #[i64 (checkP (xs.map (·.1)) nt).1,.slice pa (checkP (xs.map (·.1)) nt).2.1.length pc,i64 (checkP (xs.map (·.1)) nt).2.2] 51 (0,0)) :: (M8 ++ (oRr b5 t pe (-1) (.slice an (preL (xs.map (·.2))).length cn) :: oSc b6 (.slice a (xs.map (·.1)).length c) (.slice na nt.length nc) :: (RN ++ (K ++ R)))))))) (storeX 0 rfl Siz.eq rfl rfl (by simp [Value.oneCell']) (by simp) ?_)
  simp (disch:=omega) only[push_cast,Nat.reduceEqDiff,h2,h5,h6]
  refine ⟨hsc _,hsc _,hsc _,loadX_agg Shp.eq mem0 rfl rfl ?_⟩
  simp (disch:=omega) only[push_cast,Nat.reduceEqDiff,h2,h5,h6]
  rw [hr8]
  exact fun w2 hw2 => ⟨_,[],rfl,hw2.end (fun b hb => by
    rcases List.mem_cons.1 hb with rfl | hb
    · exact hb2
    · exact hQn b hb),by simp,none,0,none,0,[],[],[],rfl,rfl,own_nil,ownN_nil⟩
end Go.Proofs.YtdmdgkpjjpijdaaGreatDoor
