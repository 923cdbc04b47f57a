/- YtdmdgkpjjpijdaaGreatDoor: walks, part 196: two readers tell the same of any text. -/
import Derived.Test.YtdmdgkpjjpijdaaGreatDoorW195
import Derived.Test.YtdmdgkpjjpijdaaGreatDoorW177
import Derived.Test.YtdmdgkpjjpijdaaGreatDoorW14
import Derived.Test.YtdmdgkpjjpijdaaGreatDoorW9
namespace Go.Proofs.YtdmdgkpjjpijdaaGreatDoor
open Go Go.K
set_option maxRecDepth 100000
set_option linter.unusedVariables false
set_option linter.unusedSimpArgs false
set_option maxHeartbeats 8000000
def TxsAt (w : World) (lo : Nat) (a : Option Addr) (ls : List (List UInt8)) : Prop := ls = [] ∨ ∃ b off,a = some ⟨b,off,none⟩ ∧ b < lo ∧ ∀ i s,ls[i]? = some s → s.length ≤ 9223372036854775807 ∧ At w b (off + i) [str s]
theorem parse_small (t : List UInt8) : ∀ n ∈ (parseP t).nt,n.1.length ≤ 9223372036854775807 ∧ n.2.length ≤ 9223372036854775807 := by
  intro n hn
  by_cases h : (parseP t).e = 0
  · obtain ⟨_,h2,h3,_⟩ := checkP_zero (parse_may h).1
    rw [List.findIdx?_eq_none_iff] at h3
    have := h3 n hn
    simp only [longNote,Bool.or_eq_false_iff,decide_eq_false_iff_not] at this
    omega
  · exfalso
    have : (parseP t).nt = [] := by
      unfold parseP at h ⊢
      split
      · rfl
      rename_i h1
      rw [if_neg h1] at h
      split
      · rfl
      rename_i x q h2
      rw [h2] at h
      simp only at h ⊢
      split
      · rename_i h3
        rw [if_pos h3] at h
        exact absurd rfl h
      · rfl
    rw [this] at hn
    cases hn
theorem schP_own {wb w : World} {L K1 K2 : Own} {t : List UInt8} {a na : Option Addr} {c nc : Nat} (h1 : OwS (parseP t).l K1 a c) (h2 : OwN (parseP t).nt K2 na nc) (hw : Sy wb L w) (s1 : ∀ p ∈ K1,p ∈ L) (s2 : ∀ p ∈ K2,p ∈ L) : SchAt w w.heap.size a (parseP t).l c na (parseP t).nt nc :=
  ⟨h1.rd hw s1,h1.le.1,h1.le.2,h2.rdn (parse_small t) hw s2,h2.le.1,h2.le.2⟩
structure KpI (w0 : World) (a : Option Addr) (l : List (List UInt8)) (c : Nat) (i : Nat) (wb : World) (e : Env) (ds : List Deferred) (L : Own) : Prop where
  hw : wb = w0
  hds : ds = []
  o : L = []
  il : i ≤ l.length
  h15 : e 15 = .slice a l.length c
  h16 : e 16 = i64 l.length
  h17 : e 17 = i64 i
theorem kindParses_walk (w : World) (hs : SaysAt w) (hl : LibAt w) (lo : Nat) (hlo : lo ≤ w.heap.size) (a : Option Addr) (l : List (List UInt8)) (c : Nat) (h : TxsAt w lo a l) (hl63 : l.length ≤ 9223372036854775807) :
    Calls Tryz.prog 3 #[.slice a l.length c] w (Rets w (Is (.bool true))) := by
  refine enterT (args := [.slice a l.length c]) Tryz.func3 rfl Tryz.ntmps3 (congrArg Array.toList Tryz.results3) (by kernel_rfl) (by simp) (Sy.refl w) ?_
  simp (disch:=omega) only[push_cast,Nat.reduceEqDiff]
  refine callV en_5 (callX_is (fun w' hw' => awake_walk w' (hs.mono hw' (by simp))) ?_)
  simp (disch:=omega) only[push_cast,Nat.reduceEqDiff,Bool.not_true]
  rw [V_cond]
  simp (disch:=omega) only[push_cast,Nat.reduceEqDiff]
  rw [V_block]
  simp (disch:=omega) only[push_cast,Nat.reduceEqDiff]
  refine loopW (G := Nat) (KpI w a l c) (fun i => l.length - i) 0 [] (fun w' hw' => hw') (by kernel_rfl) ⟨rfl,rfl,rfl,by omega,rfl,rfl,rfl⟩ ?_
  rintro i wb e ds L ⟨rfl,rfl,rfl,hil,h15,h16,h17⟩
  simp (disch:=omega) only[push_cast,Nat.reduceEqDiff,h15,h16,h17]
  rw [V_cond]
  simp (disch:=omega) only[push_cast,Nat.reduceEqDiff,h15,h16,h17]
  refine condX_d (fun hlt => ?_) (fun hge => ?_)
  rotate_left
  · simp (disch:=omega) only[push_cast,Nat.reduceEqDiff,h15,h16,h17]
    exact finIs (L := []) (by simp) rfl
  obtain ⟨t,hf⟩ : ∃ f,l[i]? = some f := ⟨_,List.getElem?_eq_getElem (by omega)⟩
  obtain ⟨b,off,rfl,hb,hat⟩ : ∃ b off,a = some ⟨b,off,none⟩ ∧ b < lo ∧ ∀ i s,l[i]? = some s → s.length ≤ 9223372036854775807 ∧ At wb b (off + i) [str s] := by
    rcases h with rfl | h
    · simp at hf
    · exact h
  obtain ⟨ht,hat⟩ := hat i t hf
  simp (disch:=omega) only[push_cast,Nat.reduceEqDiff,h15,h16,h17]
  rw [V_block]
  simp (disch:=omega) only[push_cast,Nat.reduceEqDiff,h15,h16,h17]
  refine ldF Shp.eq (by simpa using hat) (out_of (fun p hp => by cases hp)) ?_
  simp (disch:=omega) only[push_cast,Nat.reduceEqDiff,h15,h16,h17]
  refine callV en_6 (callX_new (fun w' hw' => parse_walk w' (hs.mono hw' (by simp)) (hl.mono hw' (by simp)) t ht) (fun v M2 hM2 hn2 hS2 => ?_))
  (refine Exists.elim (hS2) (fun a1 hz => Exists.elim hz (fun c1 hz => Exists.elim hz (fun na1 hz => Exists.elim hz (fun nc1 hz => Exists.elim hz (fun K1 hz => Exists.elim hz (fun K2 hz => Exists.elim hz (fun R1 hz => ?_))))))); have ez := hz.1; subst ez; have ez := hz.2.1; subst ez; have hO1 := hz.2.2.1; have hO2 := hz.2.2.2; clear hz)
  simp (maxSteps := 1000000) (disch:=omega) only[push_cast,Nat.reduceEqDiff,h15,h16,h17,ne_eq,not_true_eq_false,decide_false,Bool.not_true,Bool.not_false]
  refine newI (fun b5 hb5 hn5 => ?_)
  simp (maxSteps := 1000000) (disch:=omega) only[push_cast,Nat.reduceEqDiff,h15,h16,h17,ne_eq,not_true_eq_false,decide_false,Bool.not_true,Bool.not_false]
  refine storeX 0 rfl Siz.eq rfl rfl (by simp [Value.oneCell']) (by simp) ?_
  simp (maxSteps := 1000000) (disch:=omega) only[push_cast,Nat.reduceEqDiff,h15,h16,h17,ne_eq,not_true_eq_false,decide_false,Bool.not_true,Bool.not_false]
  refine callV en_7 (callX_new (fun w' hw' => parseR_walk w' t ht) (fun v M3 hM3 hn3 hS3 => ?_))
  (refine Exists.elim (hS3) (fun a2 hz => Exists.elim hz (fun c2 hz => Exists.elim hz (fun na2 hz => Exists.elim hz (fun nc2 hz => Exists.elim hz (fun J1 hz => Exists.elim hz (fun J2 hz => Exists.elim hz (fun R2 hz => ?_))))))); have ez := hz.1; subst ez; have ez := hz.2.1; subst ez; have hJ1 := hz.2.2.1; have hJ2 := hz.2.2.2; clear hz)
  simp (maxSteps := 1000000) (disch:=omega) only[push_cast,Nat.reduceEqDiff,h15,h16,h17,ne_eq,not_true_eq_false,decide_false,Bool.not_true,Bool.not_false]
  refine newI (fun b8 hb8 hn8 => ?_)
  simp (maxSteps := 1000000) (disch:=omega) only[push_cast,Nat.reduceEqDiff,h15,h16,h17,ne_eq,not_true_eq_false,decide_false,Bool.not_true,Bool.not_false]
  refine storeX 0 rfl Siz.eq rfl rfl (by simp [Value.oneCell']) (by simp) ?_
  simp (maxSteps := 1000000) (disch:=omega) only[push_cast,Nat.reduceEqDiff,h15,h16,h17,ne_eq,not_true_eq_false,decide_false,Bool.not_true,Bool.not_false]
  refine loadX_agg Shp.eq (.tail _ (List.mem_append_right _ mem0)) rfl rfl ?_
  simp (maxSteps := 1000000) (disch:=omega) only[push_cast,Nat.reduceEqDiff,h15,h16,h17,ne_eq,not_true_eq_false,decide_false,Bool.not_true,Bool.not_false]
  refine loadX_agg Shp.eq mem0 rfl rfl ?_
  simp (maxSteps := 1000000) (disch:=omega) only[push_cast,Nat.reduceEqDiff,h15,h16,h17,ne_eq,not_true_eq_false,decide_false,Bool.not_true,Bool.not_false]
  have hL2 : ∀ p ∈ (b8,Obj.cells #[.slice a2 (parseP t).l.length c2,.slice na2 (parseP t).nt.length nc2] 27 (0,0)) :: ((J1 ++ (J2 ++ R2)) ++ ((b5,Obj.cells #[.slice a1 (parseP t).l.length c1,.slice na1 (parseP t).nt.length nc1] 27 (0,0)) :: (K1 ++ (K2 ++ R1)))),wb.heap.size ≤ p.1 := fun p hp => by
    rcases List.mem_cons.1 hp with rfl | hp
    · exact hb8
    rcases List.mem_append.1 hp with hp | hp
    · exact hM3 p hp
    rcases List.mem_cons.1 hp with rfl | hp
    · exact hb5
    · exact hM2 p hp
  refine callV en_8 (callX_is (fun w' hw' => eqSchema_walk w' w'.heap.size w'.heap.size (parseP t).l (parseP t).nt a1 a2 c1 c2 na1 na2 nc1 nc2 (Nat.le_refl _) (Nat.le_refl _) (schP_own hO1 hO2 hw' (fun p hp => by simp [hp]) (fun p hp => by simp [hp])) (schP_own hJ1 hJ2 hw' (fun p hp => by simp [hp]) (fun p hp => by simp [hp]))) ?_)
  simp (maxSteps := 1000000) (disch:=omega) only[push_cast,Nat.reduceEqDiff,h15,h16,h17,ne_eq,not_true_eq_false,decide_false,Bool.not_true,Bool.not_false]
  rw [V_cond]
  simp (maxSteps := 1000000) (disch:=omega) only[push_cast,Nat.reduceEqDiff,h15,h16,h17,ne_eq,not_true_eq_false,decide_false,Bool.not_true,Bool.not_false]
  refine callV en_9 (callX_new (fun w' hw' => parseFieldP_walk w' (hs.mono hw' hL2) (hl.mono hw' hL2) t ht) (fun v M4 hM4 hn4 hS4 => ?_))
  (refine Exists.elim (hS4) (fun a3 hz => Exists.elim hz (fun c3 hz => Exists.elim hz (fun K3 hz => ?_))); have ez := hz.1; subst ez; have hO3 := hz.2.1; have hK3 := hz.2.2; clear hz)
  simp (maxSteps := 1000000) (disch:=omega) only[push_cast,Nat.reduceEqDiff,h15,h16,h17,ne_eq,not_true_eq_false,decide_false,Bool.not_true,Bool.not_false,Fld.cells]
  refine newI (fun b11 hb11 hn11 => ?_)
  simp (maxSteps := 1000000) (disch:=omega) only[push_cast,Nat.reduceEqDiff,h15,h16,h17,ne_eq,not_true_eq_false,decide_false,Bool.not_true,Bool.not_false,Fld.cells]
  refine storeX 0 rfl Siz.eq rfl rfl (by simp [Value.oneCell',Fld.cells]) (by simp) ?_
  simp (maxSteps := 1000000) (disch:=omega) only[push_cast,Nat.reduceEqDiff,h15,h16,h17,ne_eq,not_true_eq_false,decide_false,Bool.not_true,Bool.not_false,Fld.cells]
  refine callV en_10 (callX_new (fun w' hw' => parseFieldR_walk w' t ht) (fun v M5 hM5 hn5b hS5 => ?_))
  (refine Exists.elim (hS5) (fun a4 hz => Exists.elim hz (fun c4 hz => Exists.elim hz (fun K4 hz => ?_))); have ez := hz.1; subst ez; have hO4 := hz.2.1; have hK4 := hz.2.2; clear hz)
  simp (maxSteps := 1000000) (disch:=omega) only[push_cast,Nat.reduceEqDiff,h15,h16,h17,ne_eq,not_true_eq_false,decide_false,Bool.not_true,Bool.not_false,Fld.cells]
  refine newI (fun b12 hb12 hn12 => ?_)
  simp (maxSteps := 1000000) (disch:=omega) only[push_cast,Nat.reduceEqDiff,h15,h16,h17,ne_eq,not_true_eq_false,decide_false,Bool.not_true,Bool.not_false,Fld.cells]
  refine storeX 0 rfl Siz.eq rfl rfl (by simp [Value.oneCell',Fld.cells]) (by simp) ?_
  simp (maxSteps := 1000000) (disch:=omega) only[push_cast,Nat.reduceEqDiff,h15,h16,h17,ne_eq,not_true_eq_false,decide_false,Bool.not_true,Bool.not_false,Fld.cells]
  refine loadX_agg Shp.eq (.tail _ (List.mem_append_right _ mem0)) rfl rfl ?_
  simp (maxSteps := 1000000) (disch:=omega) only[push_cast,Nat.reduceEqDiff,h15,h16,h17,ne_eq,not_true_eq_false,decide_false,Bool.not_true,Bool.not_false,Fld.cells]
  refine loadX_agg Shp.eq mem0 rfl rfl ?_
  simp (maxSteps := 1000000) (disch:=omega) only[push_cast,Nat.reduceEqDiff,h15,h16,h17,ne_eq,not_true_eq_false,decide_false,Bool.not_true,Bool.not_false,Fld.cells]
  refine callV en_11 (callX_is (fun w' hw' => eqField_walk w' w'.heap.size w'.heap.size (parseF t).f a3 a4 c3 c4 (Nat.le_refl _) (Nat.le_refl _) (hO3.rd hw' (fun p hp => .tail _ (List.mem_append_right _ (.tail _ (List.mem_append_left _ (hK3 p hp)))))) (hO4.rd hw' (fun p hp => .tail _ (List.mem_append_left _ (hK4 p hp)))) (Nat.le_trans hO3.le.1 hO3.le.2)) ?_)
  simp (maxSteps := 1000000) (disch:=omega) only[push_cast,Nat.reduceEqDiff,h15,h16,h17,ne_eq,not_true_eq_false,decide_false,Bool.not_true,Bool.not_false,Fld.cells]
  rw [V_cond]
  simp (maxSteps := 1000000) (disch:=omega) only[push_cast,Nat.reduceEqDiff,h15,h16,h17,ne_eq,not_true_eq_false,decide_false,Bool.not_true,Bool.not_false,Fld.cells]
  refine ⟨i + 1,[],fun w' hw' => hw'.end (fun p hp => ?_),⟨rfl,rfl,rfl,by omega,by simpa [upd] using h15,by simpa [upd] using h16,by simp [upd]⟩,by omega⟩
  rcases List.mem_cons.1 hp with rfl | hp
  · exact hb12
  rcases List.mem_append.1 hp with hp | hp
  · exact hM5 p hp
  rcases List.mem_cons.1 hp with rfl | hp
  · exact hb11
  rcases List.mem_append.1 hp with hp | hp
  · exact hM4 p hp
  · exact hL2 p hp
end Go.Proofs.YtdmdgkpjjpijdaaGreatDoor
