/- YtdmdgkpjjpijdaaGreatDoor: walks, part 194: the reference's ParseField. -/
import Derived.Test.YtdmdgkpjjpijdaaGreatDoorW193
import Derived.Test.YtdmdgkpjjpijdaaGreatDoorW175
namespace Go.Proofs.YtdmdgkpjjpijdaaGreatDoor
open Go Go.K
set_option maxRecDepth 100000
set_option linter.unusedVariables false
set_option linter.unusedSimpArgs false
set_option maxHeartbeats 16000000
theorem finF_of {t : List UInt8} {f : Fld} {N : List Nat} {p1 p3 : Nat} {ft1 ft3 : Int} (h1 : StepR t (-1) 0 (pField t (t.length + 1) (blP t 0)) (fun y => f = y.1 ∧ N = [] ++ preP y.2) p1 ft1) (h3 : StepR t ft1 p1 (pEnd t () (blP t p1)) (fun _ => True) p3 ft3) : (0 ≤ ft3 ∧ ∃ q : Nat,pOne t = .no q ∧ ft3 = q) ∨ (ft3 = -1 ∧ ∃ (x : Fz) (r : Nat),pOne t = .ok x r ∧ f = x.1 ∧ N = preP x.2 ∧ Like x.1 x.2) := by
  obtain ⟨_,_,⟨_,a2,x,a3,a4,a5⟩ | ⟨a1,a2,_⟩⟩ := h1
  · subst a2
    obtain ⟨_,_,⟨_,c2,u,c3,_⟩ | ⟨c1,c2,_⟩⟩ := h3
    · exact .inr ⟨c2,x,_,by rw [pOne,a3,PR.and_ok]; exact pEnd_ok c3,a4,a5,pField_like t _ _ _ _ a3⟩
    · obtain ⟨q,e1,e2⟩ := c2 rfl
      exact .inl ⟨c1,q,by rw [pOne,a3,PR.and_ok]; exact pEnd_no e1,e2⟩
  · obtain ⟨q,e1,e2⟩ := a2 rfl
    have hb := h3.bad a1
    exact .inl ⟨by omega,q,by rw [pOne,e1,PR.and_no],by omega⟩
theorem copyX2 {P : Program} {wb : World} {t ty e : TypeId} {b o n dc sc : Nat} {cs xs : List Value} {a : Addr} {L0 : Own} {K : Value → World → Own → Prop} (hu : P.underlying t = some (.slice e)) (hs : (P.info? e).map (·.size) = some 1) (hn : xs.length = n) (hfit : o + n ≤ cs.length)
    (hsrc : ∀ w,Sy wb ((b,.cells cs.toArray e (0,0)) :: L0) w → ∀ j v,xs[j]? = some v → w.cell? (a.add j) = some v) (h1 : ∀ u ∈ xs,u.oneCell' = true) (hK : ∀ u,K u wb ((b,.cells (cs.take o ++ xs ++ cs.drop (o + n)).toArray e (0,0)) :: L0)) :
    ValX P (Builtin.copy_ #[t,t] ty #[.slice (some ⟨b,o,none⟩) n dc,.slice (some a) n sc]) wb ((b,.cells cs.toArray e (0,0)) :: L0) (tag K) := by
  intro w hw
  have hbo := hw.own b _ (List.mem_cons_self ..)
  have hrun := run_copy_row (P := P) w t t ty e b o n dc a n sc cs.toArray e xs hu hs hbo (by rw [hn]; exact (Nat.min_self n).symm) (hsrc w hw) (by simpa [hn] using hfit) h1
  refine ⟨_,_,wb,_,hrun,?_,hK _⟩
  have h6 := hw.set (i := 0) (b := b) (o := .cells cs.toArray e (0,0)) (.cells (cs.take o ++ xs ++ cs.drop (o + n)).toArray e (0,0)) (by simp)
  simp only [List.set_cons_zero] at h6
  have h7 : w.setRow b (cs.toArray.toList.take o ++ xs ++ cs.toArray.toList.drop (o + xs.length)).toArray = { w with heap := w.heap.setIfInBounds b (.cells (cs.take o ++ xs ++ cs.drop (o + n)).toArray e (0,0)) } := by
    unfold World.setRow
    congr 1
    apply Array.ext_getElem?
    intro j
    rw [Array.getElem?_modify,Array.getElem?_setIfInBounds]
    have hlt := (Array.getElem?_eq_some_iff.1 hbo).1
    split
    · rename_i hj; subst hj; rw [hbo]; simp [hn,hlt]
    · rfl
  rw [h7]
  exact h6
theorem check_zero {f : Fld} {k : Sp} (hl : LikeL [f] [k]) (h : (checkP [f] []).1 ≠ 0) : ∃ tl,(checkP [f] []).2.1 = 0 :: tl := by
  have hok := check_way (nt := []) hl
  have hne : (checkP [f] []).2.1 ≠ [] := by
    have e : checkP [f] [] = ((faultN (nd 65 [] false [f])).1,(faultN (nd 65 [] false [f])).2,0) := by unfold checkP; simp
    rw [e] at h ⊢
    simp only at h ⊢
    unfold faultN at h ⊢
    cases hj : firstWrong (nd 65 [] false [f]) with
    | none => rw [hj] at h; exact absurd rfl h
    | some j =>
      simp only
      unfold firstWrong at hj
      have hlt := List.mem_range.1 (List.mem_of_find?_eq_some hj)
      unfold pathAt
      rw [List.getElem?_eq_getElem hlt]
      exact nd_path_ne _ _ _ _ _ (List.getElem_mem hlt)
  cases hp : (checkP [f] []).2.1 with
  | nil => exact absurd hp hne
  | cons i tl =>
    rw [hp,okW] at hok
    obtain ⟨s,hs,_⟩ := hok
    have := (List.getElem?_eq_some_iff.1 hs).1
    simp only [List.length_singleton] at this
    exact ⟨tl,by congr 1; omega⟩
theorem add_at (b o j : Nat) : (⟨b,o,none⟩ : Addr).add j = ⟨b,o + j,none⟩ := by
  unfold Addr.add
  split
  · rename_i h0; subst h0; rfl
  · rfl
theorem tail_src {w wb : World} {L : Own} {b cap : Nat} {cs : Array Value} {i : Nat} {tl : List Nat} (hw : Sy wb L w) (hm : (b,Obj.cells cs 3 (0,0)) ∈ L) (h : RowIn [(b,Obj.cells cs 3 (0,0))] 3 (.slice (some ⟨b,0,none⟩) (i :: tl).length cap) (i :: tl).length (ints (i :: tl))) : ∀ j v,(ints tl)[j]? = some v → w.cell? ((⟨b,if cap = 1 then 0 else 1,none⟩ : Addr).add j) = some v := by
  intro j v hj
  obtain ⟨_,⟨h1,h2⟩ | ⟨b',cap',cs',h1,h2,h3,h4,h5,h6⟩⟩ := h
  · cases h1
  injection h1 with he1 he2 he3
  subst he3
  have hb : b' = b ∧ cs'.toArray = cs := by
    have := List.mem_singleton.1 h2
    injection this with e1 e2
    injection e2 with e3
    exact ⟨e1,e3⟩
  obtain ⟨rfl,rfl⟩ := hb
  have hlt := (List.getElem?_eq_some_iff.1 hj).1
  simp only [ints,List.length_map] at hlt
  have hc : ¬ cap = 1 := fun h => by simp only [List.length_cons] at h3; omega
  rw [if_neg hc,add_at]
  have h7 := CanRead.of_own (wb := wb) (L := L) hm (n := (i :: tl).length) (news := ints (i :: tl)) (by simp [ints]) (by simpa using h6) w hw (1 + j) v (by rw [show ints (i :: tl) = i64 i :: ints tl from rfl,Nat.add_comm,List.getElem?_cons_succ]; exact hj)
  rw [add_at,Nat.zero_add] at h7
  exact h7
theorem way_cells (tl : List Nat) : ((List.replicate (tl.length + 1) (Value.int .i64 0)).take (if tl.length = 0 then 0 else 1) ++ ints tl ++ (List.replicate (tl.length + 1) (Value.int .i64 0)).drop ((if tl.length = 0 then 0 else 1) + tl.length)) = ints (0 :: tl) := by
  cases tl with
  | nil => rfl
  | cons i tl =>
    rw [if_neg (by simp)]
    rw [List.drop_of_length_le (by simp; omega),List.append_nil,List.take_replicate]
    simp [ints]
theorem parseFieldR_walk (w : World) (t : List UInt8) (ht : t.length ≤ 9223372036854775807) : Calls Tryz.prog 10 #[str t] w (RetsN w (PfV (parseF t))) := by
  refine enterT (args := [str t]) Tryz.func10 rfl Tryz.ntmps10 (congrArg Array.toList Tryz.results10) (by kernel_rfl) (by simp) (Sy.refl w) ?_
  simp (disch:=omega) only[push_cast,Nat.reduceEqDiff]
  refine newI (fun b2 hb2 hn2 => ?_)
  simp (disch:=omega) only[push_cast,Nat.reduceEqDiff]
  rw [V_cond]
  simp (disch:=omega) only[push_cast,Nat.reduceEqDiff]
  refine condX_d (fun hbig => ?_) (fun hsm => ?_)
  · simp (disch:=omega) only[push_cast,Nat.reduceEqDiff]
    refine storeX 0 rfl Siz.eq rfl rfl (by simp [Value.oneCell']) (by simp) ?_
    simp (disch:=omega) only[push_cast,Nat.reduceEqDiff]
    refine loadX_agg Shp.eq mem0 rfl rfl ?_
    simp (disch:=omega) only[push_cast,Nat.reduceEqDiff]
    have hr : parseF t = ⟨noF,4,65536⟩ := by unfold parseF; rw [if_pos (by omega)]
    rw [hr]
    exact fun w' hw' => ⟨_,[],rfl,hw'.end (fun b hb => by rw [List.mem_singleton.1 hb]; exact hb2),by simp,none,0,[],rfl,own_noF,by simp⟩
  have ht2 : t.length ≤ 65536 := by omega
  simp (disch:=omega) only[push_cast,Nat.reduceEqDiff]
  refine newI (fun b5 hb5 hn5 => ?_)
  simp (disch:=omega) only[push_cast,Nat.reduceEqDiff]
  have hM0 : ∀ b ∈ [oFi b2 noF none 0],w.heap.size ≤ b.1 := fun b hb => by rw [List.mem_singleton.1 hb]; exact hb2
  refine callV en_50 (callX_own (S := FieldV0 w b5 t 0 (-1) [] [oFi b2 noF none 0] (pField t (t.length + 1) (blP t 0))) (fun w' hw' => fieldRR_all (t.length + 1) w w' b5 t 0 (-1) [] sNil [] _ ⟨ht2,Nat.zero_le _,.inl rfl,hb5,hM0,⟨rfl,.inl ⟨rfl,rfl,rfl⟩⟩,Nat.zero_le _,hw'⟩ (by omega)) (fun v9 L9 hv9 => ?_))
  (refine Exists.elim (hv9) (fun f hz => Exists.elim hz (fun a hz => Exists.elim hz (fun c hz => Exists.elim hz (fun K hz => Exists.elim hz (fun p hz => Exists.elim hz (fun ft hz => Exists.elim hz (fun N hz => Exists.elim hz (fun nv hz => Exists.elim hz (fun RN hz => ?_))))))))); have ez := hz.1; subst ez; have hO := hz.2.1; have hN := hz.2.2.1; have hNp := hz.2.2.2.1; have hK := hz.2.2.2.2.1; have hst := hz.2.2.2.2.2.1; have ez := hz.2.2.2.2.2.2; subst ez; clear hz)
  have hRNn : ∀ b ∈ RN,w.heap.size ≤ b.1 := RowO.new hN (by simp)
  obtain ⟨an,cn,rfl⟩ := hN.is_slice
  simp (disch:=omega) only[push_cast,Nat.reduceEqDiff,Fld.cells]
  refine newI (fun b6 hb6 hn6 => ?_)
  simp (disch:=omega) only[push_cast,Nat.reduceEqDiff,Fld.cells]
  refine storeX 0 rfl Siz.eq rfl rfl (by simp [Value.oneCell']) (by simp) ?_
  simp (disch:=omega) only[push_cast,Nat.reduceEqDiff,Fld.cells]
  refine callV en_45 (callX_weak (L' := oRr b5 t p ft (.slice an N.length cn) :: (oFi b6 f a c :: oFi b2 noF none 0 :: (RN ++ K))) (fun w hw => hw.perm (permC (fun f => by simp only [wt_append,wt_cons,wt_nil] <;> omega) : List.Perm (oFi b6 f a c :: oRr b5 t p ft (.slice an N.length cn) :: (RN ++ (K ++ [oFi b2 noF none 0]))) (oRr b5 t p ft (.slice an N.length cn) :: (oFi b6 f a c :: oFi b2 noF none 0 :: (RN ++ K))))) (callX_own (S := fun x L' => x = .tuple #[] ∧ ∃ (p' : Nat) (ft' : Int),StepR t ft p (pEnd t () (blP t p)) (fun _ => True) p' ft' ∧ L' = oRr b5 t p' ft' (.slice an N.length cn) :: (oFi b6 f a c :: oFi b2 noF none 0 :: (RN ++ K))) (fun w' hw' => endR_walk w w' b5 t p ft _ _ ht2 hst.2.1 hst.two hb5 hw') (fun v9 L9 hv9 => ?_)))
  have hv9a := hv9.1
  have hv9b := hv9.2
  clear hv9
  subst hv9a
  (refine Exists.elim (hv9b) (fun pe hz => Exists.elim hz (fun fe hz => ?_)); have hse := hz.1; have ez := hz.2; subst ez; clear hz)
  have hfin := finF_of hst hse
  have hfe : fe = -1 ∨ 0 ≤ fe := hse.two
  simp (disch:=omega) only[push_cast,Nat.reduceEqDiff,Fld.cells]
  refine ldOne Shp.eq mem0 rfl ?_
  simp (disch:=omega) only[push_cast,Nat.reduceEqDiff,Fld.cells]
  rw [V_cond]
  simp (disch:=omega) only[push_cast,Nat.reduceEqDiff,Fld.cells]
  have hLs : ∀ (o2 : Obj),∀ b ∈ oFi b6 f a c :: (b2,o2) :: (RN ++ K),w.heap.size ≤ b.1 := fun o2 b hb => by
    simp only [List.mem_cons,List.mem_append] at hb
    rcases hb with rfl | rfl | hb | hb
    · exact hb6
    · exact hb2
    · exact hRNn b hb
    · exact hK b hb
  refine condX_d (fun hbad => ?_) (fun hgood => ?_)
  · obtain ⟨q8,hq8,hfq⟩ : ∃ q : Nat,pOne t = .no q ∧ fe = q := by
      rcases hfin with ⟨_,h⟩ | ⟨h,_⟩
      · exact h
      · omega
    have hr8 : parseF t = ⟨noF,8,q8⟩ := by
      unfold parseF
      rw [if_neg (by omega),hq8]
    have hsb : ∀ (o2 : Obj),Stab w (oRr b5 t pe fe (.slice an N.length cn) :: oFi b6 f a c :: (b2,o2) :: (RN ++ K)) [oRr b5 t pe fe (.slice an N.length cn)] := fun o2 => Stab.of (.cons_cons _ (List.nil_sublist _)) (fun b hb => by
      rcases List.mem_cons.1 hb with rfl | hb
      · exact hb5
      · exact hLs o2 b hb)
    simp (disch:=omega) only[push_cast,Nat.reduceEqDiff,Fld.cells]
    refine freeT [0,1,2,3,4] [5,6,7] [oRr b5 t pe fe (.slice an N.length cn)] (by kernel_rfl) mixed (by kernel_rfl) (hsb _) ?_
    simp (disch:=omega) only[push_cast,Nat.reduceEqDiff,Fld.cells]
    refine ldOne Shp.eq mem0 rfl ?_
    simp (disch:=omega) only[push_cast,Nat.reduceEqDiff,Fld.cells]
    refine storeX 2 rfl Siz.eq rfl rfl (by simp [Value.oneCell']) (by simp) ?_
    simp (disch:=omega) only[push_cast,Nat.reduceEqDiff,Fld.cells]
    refine ⟨hsb _,hsb _,hsb _,loadX_agg Shp.eq mem2 rfl rfl ?_⟩
    simp (disch:=omega) only[push_cast,Nat.reduceEqDiff,Fld.cells]
    rw [hr8,hfq]
    exact fun w2 hw2 => ⟨_,[],rfl,hw2.end (fun b hb => by
      rcases List.mem_cons.1 hb with rfl | hb
      · exact hb5
      · exact hLs _ b hb),by simp,none,0,[],rfl,own_noF,by simp⟩
  simp (disch:=omega) only[push_cast,Nat.reduceEqDiff,Fld.cells]
  have hfe1 : fe = -1 := by omega
  subst hfe1
  obtain ⟨x,r0,hps,rfl,rfl,hlike⟩ : ∃ (x : Fz) (r : Nat),pOne t = .ok x r ∧ f = x.1 ∧ N = preP x.2 ∧ Like x.1 x.2 := by
    rcases hfin with ⟨h,_⟩ | ⟨_,h⟩
    · omega
    · exact h
  have hlk : LikeL [x.1] [x.2] := by rw [LikeL,LikeL]; exact ⟨hlike,trivial⟩
  have hpre : preP x.2 = preL [x.2] := by simp [preL]
  have hcl : cL [x.1] ≤ 65536 := by rw [← pre_lenL _ _ hlk,← hpre]; have := hst.2.1; omega
  refine loadX_agg Shp.eq mem1 rfl rfl ?_
  simp (disch:=omega) only[push_cast,Nat.reduceEqDiff,Fld.cells]
  refine callV en_51 (callX_new (fun w' hw' => checkFieldR_walk w' w'.heap.size (Nat.le_refl _) x.1 a c (hO.rd hw' (fun q hq => by simp [hq])) hO.le.1 hO.le.2 hO.nm_le) (fun v M8 hM8 hn8 hS8 => ?_))
  refine Exists.elim hS8 (fun pa h8 => Exists.elim h8 (fun pc h8 => ?_))
  have hv8 := h8.1
  subst hv8
  simp (disch:=omega) only[push_cast,Nat.reduceEqDiff,Fld.cells]
  refine newI (fun b7 hb7 hn7 => ?_)
  simp (disch:=omega) only[push_cast,Nat.reduceEqDiff,Fld.cells]
  refine storeX 0 rfl Siz.eq rfl rfl (by simp [Value.oneCell']) (by simp) ?_
  simp (disch:=omega) only[push_cast,Nat.reduceEqDiff,Fld.cells]
  refine ldOne Shp.eq mem0 rfl ?_
  simp (disch:=omega) only[push_cast,Nat.reduceEqDiff,Fld.cells]
  rw [V_cond]
  simp (disch:=omega) only[push_cast,Nat.reduceEqDiff,Fld.cells]
  refine condX_d (fun heq => ?_) (fun hne => ?_)
  · have hc0 : (checkP [x.1] []).1 = 0 := by omega
    have hr0 : parseF t = ⟨x.1,0,0⟩ := by
      unfold parseF
      rw [if_neg (by omega),hps]
      simp only
      rw [if_pos hc0]
    simp (disch:=omega) only[push_cast,Nat.reduceEqDiff,Fld.cells]
    refine loadX_agg Shp.eq (.tail _ (List.mem_append_right _ mem1)) rfl rfl ?_
    simp (disch:=omega) only[push_cast,Nat.reduceEqDiff,Fld.cells]
    refine storeX_weak (L' := oFi b2 noF none 0 :: (b7,Obj.cells #[i64 (checkP [x.1] []).1,.slice pa (checkP [x.1] []).2.1.tail.length pc,i64 (checkP [x.1] []).2.2] 51 (0,0)) :: oRr b5 t pe (-1) (.slice an (preP x.2).length cn) :: oFi b6 x.1 a c :: (M8 ++ (RN ++ K))) (fun w hw => hw.perm (permC (fun f => by simp only [wt_append,wt_cons,wt_nil] <;> omega) : List.Perm ((b7,Obj.cells #[i64 (checkP [x.1] []).1,.slice pa (checkP [x.1] []).2.1.tail.length pc,i64 (checkP [x.1] []).2.2] 51 (0,0)) :: (M8 ++ (oRr b5 t pe (-1) (.slice an (preP x.2).length cn) :: oFi b6 x.1 a c :: oFi b2 noF none 0 :: (RN ++ K)))) (oFi b2 noF none 0 :: (b7,Obj.cells #[i64 (checkP [x.1] []).1,.slice pa (checkP [x.1] []).2.1.tail.length pc,i64 (checkP [x.1] []).2.2] 51 (0,0)) :: oRr b5 t pe (-1) (.slice an (preP x.2).length cn) :: oFi b6 x.1 a c :: (M8 ++ (RN ++ K))))) (storeX 0 rfl Siz.eq rfl rfl (by simp [Value.oneCell']) (by simp) ?_)
    simp (disch:=omega) only[push_cast,Nat.reduceEqDiff,Fld.cells]
    refine loadX_agg Shp.eq mem0 rfl rfl ?_
    simp (disch:=omega) only[push_cast,Nat.reduceEqDiff,Fld.cells]
    rw [hr0]
    exact fun w2 hw2 => ⟨_,_,rfl,hw2,fun b hb => by
      simp only [List.mem_cons,List.mem_append] at hb
      rcases hb with rfl | rfl | rfl | rfl | hb | hb | hb
      · exact hb2
      · exact hb7
      · exact hb5
      · exact hb6
      · exact hM8 b hb
      · exact hRNn b hb
      · exact hK b hb,a,c,K,rfl,hO,fun b hb => by simp [hb]⟩
  have hc0 : (checkP [x.1] []).1 ≠ 0 := by omega
  have hr8 : parseF t = ⟨noF,(checkP [x.1] []).1,foundP [x.2] (checkP [x.1] []).2.1 0⟩ := by
    unfold parseF
    rw [if_neg (by omega),hps]
    simp only
    rw [if_neg hc0]
  have hok : okW [x.2] (checkP [x.1] []).2.1 := check_way hlk
  have hpl := okW_len _ _ _ hlk hok
  obtain ⟨tl,htl⟩ := check_zero hlk hc0
  obtain ⟨bp,cap,cs,rfl,rfl,hmp,hrp⟩ : ∃ b cap cs,pa = some ⟨b,if cap = 1 then 0 else 1,none⟩ ∧ pc = cap - 1 ∧ (b,.cells cs 3 (0,0)) ∈ M8 ∧ RowIn [(b,.cells cs 3 (0,0))] 3 (.slice (some ⟨b,0,none⟩) (checkP [x.1] []).2.1.length cap) (checkP [x.1] []).2.1.length (ints (checkP [x.1] []).2.1) := by
    rcases h8.2 with ⟨_,_,h⟩ | h
    · rw [htl] at h; cases h
    · exact h
  clear h8 hS8
  rw [htl] at hr8 hok hpl hrp
  simp only [List.length_cons] at hpl
  have htl6 : tl.length ≤ 65536 := by omega
  simp only [htl,List.tail_cons]
  simp (disch:=omega) only[push_cast,Nat.reduceEqDiff,Fld.cells]
  refine ldOne Shp.eq mem0 rfl ?_
  simp (disch:=omega) only[push_cast,Nat.reduceEqDiff,Fld.cells]
  rw [show ((tl.length : Int) + 1) = ((tl.length + 1 : Nat) : Int) from rfl]
  refine makeX .i64 .i64 un_49 infoInt rfl (by omega) (by omega) (newI fun b8 hb8 hn8b => ?_)
  simp (disch:=omega) only[push_cast,Nat.reduceEqDiff,Fld.cells]
  have hQn : ∀ b ∈ (b7,Obj.cells #[i64 (checkP [x.1] []).1,.slice (some ⟨bp,if cap = 1 then 0 else 1,none⟩) tl.length (cap - 1),i64 (checkP [x.1] []).2.2] 51 (0,0)) :: (M8 ++ (oRr b5 t pe (-1) (.slice an (preP x.2).length cn) :: oFi b6 x.1 a c :: (RN ++ K))),w.heap.size ≤ b.1 := fun b hb => by
    simp only [List.mem_cons,List.mem_append] at hb
    rcases hb with rfl | hb | rfl | rfl | hb | hb
    · exact hb7
    · exact hM8 b hb
    · exact hb5
    · exact hb6
    · exact hRNn b hb
    · exact hK b hb
  have hLn : ∀ (A : Own) (o2 : Obj),(∀ b ∈ A,w.heap.size ≤ b.1) → ∀ b ∈ A ++ ((b7,Obj.cells #[i64 (checkP [x.1] []).1,.slice (some ⟨bp,if cap = 1 then 0 else 1,none⟩) tl.length (cap - 1),i64 (checkP [x.1] []).2.2] 51 (0,0)) :: (M8 ++ (oRr b5 t pe (-1) (.slice an (preP x.2).length cn) :: oFi b6 x.1 a c :: (b2,o2) :: (RN ++ K)))),w.heap.size ≤ b.1 := fun A o2 hA b hb => by
    rcases List.mem_append.1 hb with hb | hb
    · exact hA b hb
    · by_cases h : b = (b2,o2)
      · rw [h]; exact hb2
      · exact hQn b (by
          simp only [List.mem_cons,List.mem_append] at hb ⊢
          rcases hb with hb | hb | hb | hb | hb | hb | hb <;> simp [hb,h] at *)
  have hsb : ∀ (A : Own) (o2 : Obj),(∀ b ∈ A,w.heap.size ≤ b.1) → Stab w (A ++ ((b7,Obj.cells #[i64 (checkP [x.1] []).1,.slice (some ⟨bp,if cap = 1 then 0 else 1,none⟩) tl.length (cap - 1),i64 (checkP [x.1] []).2.2] 51 (0,0)) :: (M8 ++ (oRr b5 t pe (-1) (.slice an (preP x.2).length cn) :: oFi b6 x.1 a c :: (b2,o2) :: (RN ++ K))))) ((b7,Obj.cells #[i64 (checkP [x.1] []).1,.slice (some ⟨bp,if cap = 1 then 0 else 1,none⟩) tl.length (cap - 1),i64 (checkP [x.1] []).2.2] 51 (0,0)) :: (M8 ++ (oRr b5 t pe (-1) (.slice an (preP x.2).length cn) :: oFi b6 x.1 a c :: (RN ++ K)))) := fun A o2 hA => Stab.of (List.Sublist.trans (.cons_cons _ (.append (List.Sublist.refl _) (.cons_cons _ (.cons_cons _ (.cons _ (List.Sublist.refl _)))))) (List.sublist_append_right A _)) (hLn A o2 hA)
  have hb81 : ∀ (o8 : Obj),∀ b ∈ [(b8,o8)],w.heap.size ≤ b.1 := fun o8 b hb => by rw [List.mem_singleton.1 hb]; exact hb8
  refine freeT [0,1,2,3] [4] ((b7,Obj.cells #[i64 (checkP [x.1] []).1,.slice (some ⟨bp,if cap = 1 then 0 else 1,none⟩) tl.length (cap - 1),i64 (checkP [x.1] []).2.2] 51 (0,0)) :: (M8 ++ (oRr b5 t pe (-1) (.slice an (preP x.2).length cn) :: oFi b6 x.1 a c :: (RN ++ K)))) (by kernel_rfl) mixed (by kernel_rfl) (hsb [_] _ (hb81 _)) ?_
  simp (disch:=omega) only[push_cast,Nat.reduceEqDiff,Fld.cells]
  repeat' (first | ((first | refine guardX_t rfl (fun h => ?_) (fun h => ?_) | refine guardX_f rfl (fun h => ?_) (fun h => ?_) | refine condX_d (fun h => ?_) (fun h => ?_) | (refine guardX_bt rfl (fun h => ?_) (fun h => ?_) <;> (try subst h)) | (refine guardX_bf rfl (fun h => ?_) (fun h => ?_) <;> (try subst h)) | (refine condX_b (fun h => ?_) (fun h => ?_) <;> (try subst h)) | refine ldOne Shp.eq (by (first | exact mem0 | exact mem1 | exact mem2 | exact mem3)) rfl ?_ | refine loadX_agg Shp.eq (by (first | exact mem0 | exact mem1 | exact mem2 | exact mem3)) rfl rfl ?_ | refine newI (fun b hb hn => ?_) | refine storeX 0 rfl Siz.eq rfl rfl (by simp [Value.oneCell']) (by simp) ?_ | refine storeX 1 rfl Siz.eq rfl rfl (by simp [Value.oneCell']) (by simp) ?_ | refine storeX 2 rfl Siz.eq rfl rfl (by simp [Value.oneCell']) (by simp) ?_ | refine storeX 3 rfl Siz.eq rfl rfl (by simp [Value.oneCell']) (by simp) ?_) <;> simp (disch:=omega) only[push_cast,Nat.reduceEqDiff,Fld.cells]))
  rw [Nat.add_sub_cancel]
  refine copyX2 un_49 sz_3 (xs := ints tl) (by simp [ints]) (by rw [List.length_replicate]; split <;> omega) (fun w' hw' => tail_src hw' (.tail _ (.tail _ (List.mem_append_left _ hmp))) hrp) (ints_one tl) (fun u => ?_)
  rw [way_cells]
  simp (disch:=omega) only[push_cast,Nat.reduceEqDiff,Fld.cells]
  refine ⟨hsb [_] _ (hb81 _),?_⟩
  refine freeT [0,1,2,3,6,7,8,9,10] [4,5,11,12,13,14] ((b7,Obj.cells #[i64 (checkP [x.1] []).1,.slice (some ⟨bp,if cap = 1 then 0 else 1,none⟩) tl.length (cap - 1),i64 (checkP [x.1] []).2.2] 51 (0,0)) :: (M8 ++ (oRr b5 t pe (-1) (.slice an (preP x.2).length cn) :: oFi b6 x.1 a c :: (RN ++ K)))) (by kernel_rfl) mixed (by kernel_rfl) (hsb [_] _ (hb81 _)) ?_
  simp (disch:=omega) only[push_cast,Nat.reduceEqDiff,Fld.cells]
  refine ldOne Shp.eq mem0 rfl ?_
  simp (disch:=omega) only[push_cast,Nat.reduceEqDiff,Fld.cells]
  refine loadX_agg Shp.eq (.tail _ (List.mem_append_right _ mem1)) rfl rfl ?_
  simp (disch:=omega) only[push_cast,Nat.reduceEqDiff,Fld.cells]
  refine ldOne Shp.eq (.tail _ (List.mem_append_right _ mem0)) rfl ?_
  simp (disch:=omega) only[push_cast,Nat.reduceEqDiff,Fld.cells]
  refine bs_24_1 (newI fun b50 hb50 hn50 => ?_)
  have hb82 : ∀ (o8 o50 : Obj),∀ b ∈ [(b50,o50),(b8,o8)],w.heap.size ≤ b.1 := fun o8 o50 b hb => by
    rcases List.mem_cons.1 hb with rfl | hb
    · exact hb50
    · exact hb81 o8 b hb
  have hrow50 : RowO w 37 7 [(b50,Obj.cells (x.1.cells a c).toArray 37 (0,0))] [] (.slice (some ⟨b50,0,none⟩) 1 1) [x.1].length (x.1.cells a c) := ⟨rfl,.inr ⟨b50,1,x.1.cells a c,rfl,rfl,hb50,Nat.le_refl _,by simp only [maxLen]; omega,rfl,rfl⟩⟩
  have hO50 : OwS [x.1] ([(b50,Obj.cells (x.1.cells a c).toArray 37 (0,0))] ++ K) (some ⟨b50,0,none⟩) 1 := by
    obtain ⟨a',c',h1,h2⟩ := row_fields hrow50 (OwK.single hO)
    injection h1 with e1 e2 e3
    subst e1; subst e3
    exact h2
  have hrow8 : RowIn [(b8,Obj.cells (ints (0 :: tl)).toArray 3 (0,0))] 3 (.slice (some ⟨b8,0,none⟩) (0 :: tl).length (tl.length + 1)) (0 :: tl).length (ints (0 :: tl)) := ⟨by simp [ints],.inr ⟨b8,tl.length + 1,ints (0 :: tl),rfl,.head _,Nat.le_refl _,by simp only [maxLen]; omega,by simp [ints],List.take_of_length_le (by simp [ints])⟩⟩
  simp (disch:=omega) only[push_cast,Nat.reduceEqDiff,Fld.cells]
  refine ⟨hsb [_,_] _ (hb82 _ _),hsb [_,_] _ (hb82 _ _),?_⟩
  refine callV en_46 (callX_is (v := i64 (foundP [x.2] (0 :: tl) 0)) (fun w' hw' => place_walk w' w'.heap.size (Nat.le_refl _) [x.1] (some ⟨b50,0,none⟩) 1 none 0 0 (preP x.2) an cn (some ⟨b8,0,none⟩) (0 :: tl) (tl.length + 1) [x.2] (hO50.rd hw' (fun q hq => (List.mem_append.1 hq).elim (fun h => by rw [List.mem_singleton.1 h]; exact .head _) (fun h => .tail _ (.tail _ (.tail _ (List.mem_append_right _ (.tail _ (.tail _ (.tail _ (List.mem_append_right _ h)))))))))) (Nat.le_refl _) (by omega) (natsAt_rowO hw' (fun q hq => .tail _ (.tail _ (.tail _ (List.mem_append_right _ (.tail _ (.tail _ (.tail _ (List.mem_append_left _ hq)))))))) hN) hpre (natsAt_row hw' (fun q hq => by rw [List.mem_singleton.1 hq]; exact .tail _ (.head _)) hrow8).1 (by simp only [List.length_cons]; omega) hlk hok (by simp) (by omega)) ?_)
  simp (disch:=omega) only[push_cast,Nat.reduceEqDiff,Fld.cells]
  refine ⟨hsb [_,_] _ (hb82 _ _),?_⟩
  refine storeX_weak (L' := oFi b2 noF none 0 :: ((b50,Obj.cells (x.1.cells a c).toArray 37 (0,0)) :: (b8,Obj.cells (ints (0 :: tl)).toArray 3 (0,0)) :: (b7,Obj.cells #[i64 (checkP [x.1] []).1,.slice (some ⟨bp,if cap = 1 then 0 else 1,none⟩) tl.length (cap - 1),i64 (checkP [x.1] []).2.2] 51 (0,0)) :: (M8 ++ (oRr b5 t pe (-1) (.slice an (preP x.2).length cn) :: oFi b6 x.1 a c :: (RN ++ K))))) (fun w hw => hw.perm (permC (fun f => by simp only [wt_append,wt_cons,wt_nil] <;> omega) : List.Perm ((b50,Obj.cells (x.1.cells a c).toArray 37 (0,0)) :: (b8,Obj.cells (ints (0 :: tl)).toArray 3 (0,0)) :: (b7,Obj.cells #[i64 (checkP [x.1] []).1,.slice (some ⟨bp,if cap = 1 then 0 else 1,none⟩) tl.length (cap - 1),i64 (checkP [x.1] []).2.2] 51 (0,0)) :: (M8 ++ (oRr b5 t pe (-1) (.slice an (preP x.2).length cn) :: oFi b6 x.1 a c :: oFi b2 noF none 0 :: (RN ++ K)))) (oFi b2 noF none 0 :: ((b50,Obj.cells (x.1.cells a c).toArray 37 (0,0)) :: (b8,Obj.cells (ints (0 :: tl)).toArray 3 (0,0)) :: (b7,Obj.cells #[i64 (checkP [x.1] []).1,.slice (some ⟨bp,if cap = 1 then 0 else 1,none⟩) tl.length (cap - 1),i64 (checkP [x.1] []).2.2] 51 (0,0)) :: (M8 ++ (oRr b5 t pe (-1) (.slice an (preP x.2).length cn) :: oFi b6 x.1 a c :: (RN ++ K))))))) (storeX 0 rfl Siz.eq rfl rfl (by simp [Value.oneCell']) (by simp) ?_)
  simp (disch:=omega) only[push_cast,Nat.reduceEqDiff,Fld.cells]
  have hRn : ∀ b ∈ (b50,Obj.cells (x.1.cells a c).toArray 37 (0,0)) :: (b8,Obj.cells (ints (0 :: tl)).toArray 3 (0,0)) :: (b7,Obj.cells #[i64 (checkP [x.1] []).1,.slice (some ⟨bp,if cap = 1 then 0 else 1,none⟩) tl.length (cap - 1),i64 (checkP [x.1] []).2.2] 51 (0,0)) :: (M8 ++ (oRr b5 t pe (-1) (.slice an (preP x.2).length cn) :: oFi b6 x.1 a c :: (RN ++ K))),w.heap.size ≤ b.1 := fun b hb => by
    rcases List.mem_cons.1 hb with rfl | hb
    · exact hb50
    rcases List.mem_cons.1 hb with rfl | hb
    · exact hb8
    · exact hQn b hb
  have hsc : ∀ (o2 : Obj),Stab w ((b2,o2) :: ((b50,Obj.cells (x.1.cells a c).toArray 37 (0,0)) :: (b8,Obj.cells (ints (0 :: tl)).toArray 3 (0,0)) :: (b7,Obj.cells #[i64 (checkP [x.1] []).1,.slice (some ⟨bp,if cap = 1 then 0 else 1,none⟩) tl.length (cap - 1),i64 (checkP [x.1] []).2.2] 51 (0,0)) :: (M8 ++ (oRr b5 t pe (-1) (.slice an (preP x.2).length cn) :: oFi b6 x.1 a c :: (RN ++ K))))) ((b7,Obj.cells #[i64 (checkP [x.1] []).1,.slice (some ⟨bp,if cap = 1 then 0 else 1,none⟩) tl.length (cap - 1),i64 (checkP [x.1] []).2.2] 51 (0,0)) :: (M8 ++ (oRr b5 t pe (-1) (.slice an (preP x.2).length cn) :: oFi b6 x.1 a c :: (RN ++ K)))) := fun o2 => Stab.of (.cons _ (.cons _ (.cons _ (List.Sublist.refl _)))) (fun b hb => by
    rcases List.mem_cons.1 hb with rfl | hb
    · exact hb2
    · exact hRn b hb)
  refine ⟨hsc _,hsc _,hsc _,loadX_agg Shp.eq mem0 rfl rfl ?_⟩
  simp (disch:=omega) only[push_cast,Nat.reduceEqDiff,Fld.cells]
  rw [hr8]
  exact fun w2 hw2 => ⟨_,[],rfl,hw2.end (fun b hb => by
    rcases List.mem_cons.1 hb with rfl | hb
    · exact hb2
    · exact hRn b hb),by simp,none,0,[],rfl,own_noF,by simp⟩
end Go.Proofs.YtdmdgkpjjpijdaaGreatDoor
