/- YtdmdgkpjjpijdaaGreatDoor: walks, part 9: how many fields a schema has. -/
import Derived.Test.YtdmdgkpjjpijdaaGreatDoorW8
namespace Go.Proofs.YtdmdgkpjjpijdaaGreatDoor
open Go Go.K
set_option maxRecDepth 100000
set_option linter.unusedVariables false
set_option linter.unusedSimpArgs false
set_option maxHeartbeats 4000000
theorem nd_le : ∀ (d : Nat) (path : List Nat) (ind : Bool) (l : List Fld),(nd d path ind l).length ≤ (nd (d + 1) path ind l).length
  | 0,_,_,_ => by simp [nd]
  | d + 1,path,ind,l => by
    rw [nd,nd,List.length_flatMap,List.length_flatMap]
    have : ∀ (z : List (Fld × Nat)),(z.map fun p => ((⟨path ++ [p.2],l.take p.2,p.1,ind⟩ : FNode) :: nd d (path ++ [p.2]) (ind || p.1.k == 19) p.1.sub).length).sum ≤ (z.map fun p => ((⟨path ++ [p.2],l.take p.2,p.1,ind⟩ : FNode) :: nd (d + 1) (path ++ [p.2]) (ind || p.1.k == 19) p.1.sub).length).sum := by
      intro z
      induction z with
      | nil => simp
      | cons p z ih =>
        simp only [List.map_cons,List.sum_cons,List.length_cons] at ih ⊢
        have := nd_le d (path ++ [p.2]) (ind || p.1.k == 19) p.1.sub
        omega
    exact this _
theorem firstWrong_zero {ns : List FNode} (h : (faultN ns).1 = 0) : ∀ k,wrongAt ns k = 0 := by
  intro k
  rcases Nat.lt_or_ge k ns.length with hk | hk
  · cases hf : firstWrong ns with
    | none =>
      unfold firstWrong at hf
      rw [List.find?_eq_none] at hf
      simpa using hf k (List.mem_range.2 hk)
    | some j =>
      unfold firstWrong at hf
      have h2 := List.find?_some hf
      unfold faultN firstWrong at h
      rw [hf] at h
      simp only at h
      simp [h] at h2
  · unfold wrongAt; rw [List.getElem?_eq_none hk]
theorem checkP_zero {l : List Fld} {nt : List NoteT} (h : mayP l nt = true) : l.length ≤ 32 ∧ nt.length ≤ 16 ∧ nt.findIdx? longNote = none ∧ ∀ k,wrongAt (nd 65 [] false l) k = 0 := by
  unfold mayP at h
  have h0 : (checkP l nt).1 = 0 := by simpa using h
  unfold checkP at h0
  split at h0
  · cases h0
  · split at h0
    · cases h0
    · split at h0
      · cases h0
      · exact ⟨by omega,by omega,by assumption,firstWrong_zero h0⟩
theorem wrongN_many {pl : Nat} {ah : List Fld} {f : Fld} {ind : Bool} {k : Int} {S : List Int} (h : wrongN pl ah f ind k S = 0) : pl ≤ 64 ∧ k < 256 := by
  unfold wrongN at h
  split at h
  · cases h
  · split at h
    · cases h
    · omega
theorem few_nodes {l : List Fld} {nt : List NoteT} (h : mayP l nt = true) : (nd 65 [] false l).length ≤ 256 := by
  rcases Nat.lt_or_ge 256 (nd 65 [] false l).length with hlt | hge
  · have h1 := (checkP_zero h).2.2.2 256
    unfold wrongAt at h1
    rw [List.getElem?_eq_getElem hlt] at h1
    have := (wrongN_many h1).2
    omega
  · exact hge
def countP (l : List Fld) (nt : List NoteT) : Nat := if mayP l nt then (nd 64 [] false l).length else 0
theorem count_walk (w : World) (hs : SaysAt w) (lo : Nat) (hlo : lo ≤ w.heap.size) (a : Option Addr) (l : List Fld) (c : Nat) (na : Option Addr) (nt : List NoteT) (nc : Nat) (h : SchAt w lo a l c na nt nc) :
    Calls Tryz.prog 19 #[schV a l c na nt nc] w (Rets w (Is (i64 (countP l nt)))) := by
  refine enterM (args := [schV a l c na nt nc]) Tryz.func19 rfl Tryz.ntmps19 (congrArg Array.toList Tryz.results19) (by kernel_rfl) (by simp) (Sy.refl w) ?_
  simp (disch:=omega) only[push_cast,Nat.reduceEqDiff,schV]
  refine newI (fun b1 hb1 hn1 => ?_)
  simp (disch:=omega) only[push_cast,Nat.reduceEqDiff]
  refine newI (fun b3 hb3 hn3 => ?_)
  have hL : ∀ x,∀ p ∈ [(b3,Obj.cells #[x] 3 (0,0)),(b1,Obj.cells #[.slice a l.length c,.slice na nt.length nc] 27 (0,0))],w.heap.size ≤ p.1 := by
    intro x p hp
    simp only [List.mem_cons,List.mem_nil_iff,or_false] at hp
    rcases hp with rfl | rfl <;> assumption
  simp (disch:=omega) only[push_cast,Nat.reduceEqDiff]
  repeat' (first | ((first | refine guardX_t rfl (fun h => ?_) (fun h => ?_) | refine guardX_f rfl (fun h => ?_) (fun h => ?_) | refine condX_d (fun h => ?_) (fun h => ?_) | (refine guardX_bt rfl (fun h => ?_) (fun h => ?_) <;> (try subst h)) | (refine guardX_bf rfl (fun h => ?_) (fun h => ?_) <;> (try subst h)) | (refine condX_b (fun h => ?_) (fun h => ?_) <;> (try subst h)) | refine ldOne Shp.eq (by (first | exact mem0 | exact mem1 | exact mem2 | exact mem3)) rfl ?_ | refine loadX_agg Shp.eq (by (first | exact mem0 | exact mem1 | exact mem2 | exact mem3)) rfl rfl ?_ | refine newI (fun b hb hn => ?_) | refine storeX 0 rfl Siz.eq rfl rfl (by simp [Value.oneCell']) (by simp) ?_ | refine storeX 1 rfl Siz.eq rfl rfl (by simp [Value.oneCell']) (by simp) ?_ | refine storeX 2 rfl Siz.eq rfl rfl (by simp [Value.oneCell']) (by simp) ?_ | refine storeX 3 rfl Siz.eq rfl rfl (by simp [Value.oneCell']) (by simp) ?_) <;> simp (disch:=omega) only[push_cast,Nat.reduceEqDiff]))
  have h' := fun w' x hw' => h.sy hlo (w' := w') hw' (fun p hp => Nat.le_trans hlo (hL x p hp))
  refine callV en_56 (callX_is (fun w' hw' => may_walk w' (hs.mono hw' (hL _)) lo (Nat.le_trans hlo hw'.size) a l c na nt nc (h' w' _ hw')) ?_)
  simp (disch:=omega) only[push_cast,Nat.reduceEqDiff]
  rw [V_cond]
  simp (disch:=omega) only[push_cast,Nat.reduceEqDiff]
  refine condX_b (fun hm => ?_) (fun hm => ?_)
  · have hfew : (nd 64 [] false l).length ≤ 256 := Nat.le_trans (nd_le 64 [] false l) (few_nodes hm)
    simp (disch:=omega) only[push_cast,Nat.reduceEqDiff]
    repeat' (first | ((first | refine guardX_t rfl (fun h => ?_) (fun h => ?_) | refine guardX_f rfl (fun h => ?_) (fun h => ?_) | refine condX_d (fun h => ?_) (fun h => ?_) | (refine guardX_bt rfl (fun h => ?_) (fun h => ?_) <;> (try subst h)) | (refine guardX_bf rfl (fun h => ?_) (fun h => ?_) <;> (try subst h)) | (refine condX_b (fun h => ?_) (fun h => ?_) <;> (try subst h)) | refine ldOne Shp.eq (by (first | exact mem0 | exact mem1 | exact mem2 | exact mem3)) rfl ?_ | refine loadX_agg Shp.eq (by (first | exact mem0 | exact mem1 | exact mem2 | exact mem3)) rfl rfl ?_ | refine newI (fun b hb hn => ?_) | refine storeX 0 rfl Siz.eq rfl rfl (by simp [Value.oneCell']) (by simp) ?_ | refine storeX 1 rfl Siz.eq rfl rfl (by simp [Value.oneCell']) (by simp) ?_ | refine storeX 2 rfl Siz.eq rfl rfl (by simp [Value.oneCell']) (by simp) ?_ | refine storeX 3 rfl Siz.eq rfl rfl (by simp [Value.oneCell']) (by simp) ?_) <;> simp (disch:=omega) only[push_cast,Nat.reduceEqDiff]))
    refine callV en_54 (callX_new (fun w' _ => all_walk w' a l.length c 64) (fun v M hM hMn ⟨bl,bo,hne,hv,hMM⟩ => ?_))
    subst hv; subst hMM
    simp (disch:=omega) only[push_cast,Nat.reduceEqDiff]
    rw [V_block]
    simp (disch:=omega) only[push_cast,Nat.reduceEqDiff]
    refine forgetS (fun e => e 1 = .pointer (some ⟨b1,0,none⟩) ∧ e 3 = .pointer (some ⟨b3,0,none⟩) ∧ e 8 = .func (.func 83) #[] #[.pointer (some ⟨bo,0,none⟩),.pointer (some ⟨bl,0,none⟩)]) ⟨rfl,rfl,rfl⟩ ?_
    rintro e ⟨e1,e3,e8⟩
    refine rangeY rfl e8 en_83 (fun fn tm d lr rec hrec htm hdl hd hlr hdn hlrn w' hw' => ?_)
    refine (all1_walk w lo hlo (nd 64 [] false l)
      (fun k C => k ≤ (nd 64 [] false l).length ∧ C = [(lr,.loop rec),(d,.deferred (some [])),(b3,.cells #[i64 k] 3 (0,0)),(b1,.cells #[.slice a l.length c,.slice na nt.length nc] 27 (0,0))])
      (fun k C => False)
      (.func (.yield lr) #[] #[]) rfl rfl ⟨(by intro g f c h; cases h),?_,?_⟩ 64 (by omega) (by omega) w' [(lr,.loop rec),(d,.deferred (some [])),(b3,.cells #[i64 0] 3 (0,0)),(b1,.cells #[.slice a l.length c,.slice na nt.length nc] 27 (0,0))] [(bo,.cells #[i64 64] 3 (0,0)),(bl,.cells #[.slice a l.length c] 24 (0,0))] bo bl l a c
      (hw'.perm (((List.perm_append_comm (l₁ := [(bo,Obj.cells #[i64 64] 3 (0,0)),(bl,Obj.cells #[.slice a l.length c] 24 (0,0))])).cons _).cons _)) ⟨Nat.zero_le _,rfl⟩ hM (.head _) (.tail _ (.head _)) h.hr h.hc h.hc2 rfl).mono ?_
    · rintro k C ⟨_,rfl⟩ p hp
      simp only [List.mem_cons,List.mem_nil_iff,or_false] at hp
      rcases hp with rfl | rfl | rfl | rfl <;> assumption
    · rintro k n hkn C M bw cap cs fa aa fc ac ⟨hk,rfl⟩ hbw hpc hcm hcl hct hrf hfc hfc2 hnm hra hac hac2 hpl hM2 w2 hw2
      have hklt : k < (nd 64 [] false l).length := (List.getElem?_eq_some_iff.1 hkn).1
      subst hrec
      refine roundX (i := 0) rfl htm rfl (by simp) (by kernel_rfl) (by kernel_rfl) ?_ w2 hw2
      simp (disch:=omega) only[push_cast,Nat.reduceEqDiff,e1,e3,e8,placeV]
      refine ⟨0,rfl,?_⟩
      simp (disch:=omega) only[push_cast,Nat.reduceEqDiff,e1,e3,e8]
      rw [V_block]
      simp (disch:=omega) only[push_cast,Nat.reduceEqDiff,e1,e3,e8]
      repeat' (first | ((first | refine guardX_t rfl (fun h => ?_) (fun h => ?_) | refine guardX_f rfl (fun h => ?_) (fun h => ?_) | refine condX_d (fun h => ?_) (fun h => ?_) | (refine guardX_bt rfl (fun h => ?_) (fun h => ?_) <;> (try subst h)) | (refine guardX_bf rfl (fun h => ?_) (fun h => ?_) <;> (try subst h)) | (refine condX_b (fun h => ?_) (fun h => ?_) <;> (try subst h)) | refine ldOne Shp.eq (by (first | exact mem0 | exact mem1 | exact mem2 | exact mem3)) rfl ?_ | refine loadX_agg Shp.eq (by (first | exact mem0 | exact mem1 | exact mem2 | exact mem3)) rfl rfl ?_ | refine newI (fun b hb hn => ?_) | refine storeX 0 rfl Siz.eq rfl rfl (by simp [Value.oneCell']) (by simp) ?_ | refine storeX 1 rfl Siz.eq rfl rfl (by simp [Value.oneCell']) (by simp) ?_ | refine storeX 2 rfl Siz.eq rfl rfl (by simp [Value.oneCell']) (by simp) ?_ | refine storeX 3 rfl Siz.eq rfl rfl (by simp [Value.oneCell']) (by simp) ?_) <;> simp (disch:=omega) only[push_cast,Nat.reduceEqDiff,e1,e3,e8]))
      exact ⟨0,_,rfl,fun w4 hw4 => .inl ⟨rfl,_,⟨[_,_,_,_],⟨hklt,rfl⟩,rfl⟩,hw4⟩⟩
    · rintro en w4 ⟨rfl,h⟩
      rcases h with ⟨C',⟨_,rfl⟩,hw4⟩ | ⟨k,C',hJ,hw4⟩
      · refine ⟨w,_,0,rec,rfl,by rw [hrec]; simp,hw4,?_⟩
        have hp : rec.pending = none := by rw [hrec]
        rw [hp]
        simp (disch:=omega) only[push_cast,Nat.reduceEqDiff,e1,e3]
        repeat' (first | ((first | refine guardX_t rfl (fun h => ?_) (fun h => ?_) | refine guardX_f rfl (fun h => ?_) (fun h => ?_) | refine condX_d (fun h => ?_) (fun h => ?_) | (refine guardX_bt rfl (fun h => ?_) (fun h => ?_) <;> (try subst h)) | (refine guardX_bf rfl (fun h => ?_) (fun h => ?_) <;> (try subst h)) | (refine condX_b (fun h => ?_) (fun h => ?_) <;> (try subst h)) | refine ldOne Shp.eq (by (first | exact mem0 | exact mem1 | exact mem2 | exact mem3)) rfl ?_ | refine loadX_agg Shp.eq (by (first | exact mem0 | exact mem1 | exact mem2 | exact mem3)) rfl rfl ?_ | refine newI (fun b hb hn => ?_) | refine storeX 0 rfl Siz.eq rfl rfl (by simp [Value.oneCell']) (by simp) ?_ | refine storeX 1 rfl Siz.eq rfl rfl (by simp [Value.oneCell']) (by simp) ?_ | refine storeX 2 rfl Siz.eq rfl rfl (by simp [Value.oneCell']) (by simp) ?_ | refine storeX 3 rfl Siz.eq rfl rfl (by simp [Value.oneCell']) (by simp) ?_) <;> simp (disch:=omega) only[push_cast,Nat.reduceEqDiff,e1,e3]))
        refine ⟨d,1,rfl,rfl,?_⟩
        simp (disch:=omega) only[push_cast,Nat.reduceEqDiff,e1,e3]
        refine finIs ?_ (by simp [countP,hm])
        intro p hp
        simp only [List.mem_cons,List.mem_nil_iff,or_false] at hp
        rcases hp with rfl | rfl | rfl | rfl | hp
        all_goals first | assumption | exact hM p (by simpa using hp)
      · exact hJ.elim
  · have hm' : mayP l nt = false := by simpa using hm
    simp (disch:=omega) only[push_cast,Nat.reduceEqDiff]
    repeat' (first | ((first | refine guardX_t rfl (fun h => ?_) (fun h => ?_) | refine guardX_f rfl (fun h => ?_) (fun h => ?_) | refine condX_d (fun h => ?_) (fun h => ?_) | (refine guardX_bt rfl (fun h => ?_) (fun h => ?_) <;> (try subst h)) | (refine guardX_bf rfl (fun h => ?_) (fun h => ?_) <;> (try subst h)) | (refine condX_b (fun h => ?_) (fun h => ?_) <;> (try subst h)) | refine ldOne Shp.eq (by (first | exact mem0 | exact mem1 | exact mem2 | exact mem3)) rfl ?_ | refine loadX_agg Shp.eq (by (first | exact mem0 | exact mem1 | exact mem2 | exact mem3)) rfl rfl ?_ | refine newI (fun b hb hn => ?_) | refine storeX 0 rfl Siz.eq rfl rfl (by simp [Value.oneCell']) (by simp) ?_ | refine storeX 1 rfl Siz.eq rfl rfl (by simp [Value.oneCell']) (by simp) ?_ | refine storeX 2 rfl Siz.eq rfl rfl (by simp [Value.oneCell']) (by simp) ?_ | refine storeX 3 rfl Siz.eq rfl rfl (by simp [Value.oneCell']) (by simp) ?_) <;> simp (disch:=omega) only[push_cast,Nat.reduceEqDiff]))
    exact finIs (hL _) (by simp [countP,hm'])
end Go.Proofs.YtdmdgkpjjpijdaaGreatDoor
