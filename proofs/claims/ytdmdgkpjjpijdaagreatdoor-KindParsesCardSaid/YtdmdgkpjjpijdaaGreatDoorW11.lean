/- YtdmdgkpjjpijdaaGreatDoor: walks, part 11: the text of fields (of those kinds whose text has no number). -/
import Derived.Test.YtdmdgkpjjpijdaaGreatDoorW10
import Derived.Test.YtdmdgkpjjpijdaaGreatDoorKn
namespace Go.Proofs.YtdmdgkpjjpijdaaGreatDoor
open Go Go.K
set_option maxRecDepth 100000
set_option linter.unusedVariables false
set_option linter.unusedSimpArgs false
set_option maxHeartbeats 4000000
theorem infoU8 : (Tryz.prog.info? 5).map (fun i => (i.zero,i.size,i.bytes)) = some (some (.int .u8 0),1,1) := by kernel_rfl
abbrev listK (k : Int) : Prop := k = 15 ∨ k = 17 ∨ k = 18 ∨ k = 20
mutual
def textF : Fld → List UInt8
  | .mk _ _ k _ _ _ sub => saysWord k.toNat ++ if listK k then 40 :: (textL 0 sub ++ [41]) else []
def textL : Nat → List Fld → List UInt8
  | _,[] => []
  | i,f :: l => ((if i = 0 then [] else [44,32]) ++ (f.nm ++ (32 :: (textF f ++ if f.nl then [63] else [])))) ++ textL (i + 1) l
end
mutual
def easyF : Fld → Bool
  | .mk _ _ k _ _ _ sub => decide (1 ≤ k) && decide (k ≤ 20) && decide (k ≠ 14) && decide (k ≠ 16) && decide (k ≠ 19) && easyL sub
def easyL : List Fld → Bool
  | [] => true
  | f :: l => easyF f && easyL l
end
theorem textF_eq (f : Fld) : textF f = saysWord f.k.toNat ++ if listK f.k then 40 :: (textL 0 f.sub ++ [41]) else [] := by cases f; simp only [textF]; rfl
theorem easyF_iff (f : Fld) : easyF f = true ↔ 1 ≤ f.k ∧ f.k ≤ 20 ∧ f.k ≠ 14 ∧ f.k ≠ 16 ∧ f.k ≠ 19 ∧ easyL f.sub = true := by
  cases f
  simp only [easyF,Bool.and_eq_true,decide_eq_true_eq,Fld.k,Fld.sub,and_assoc]
theorem easyL_get : ∀ {l : List Fld} {i : Nat} {f : Fld},easyL l = true → l[i]? = some f → easyF f = true
  | [],i,f,_,h => by simp at h
  | g :: l,0,f,h1,h2 => by simp only [easyL,Bool.and_eq_true] at h1; simp at h2; rw [← h2]; exact h1.1
  | g :: l,i + 1,f,h1,h2 => by simp only [easyL,Bool.and_eq_true] at h1; exact easyL_get h1.2 (by simpa using h2)
theorem textL_append : ∀ (l m : List Fld) (i : Nat),textL i (l ++ m) = textL i l ++ textL (i + l.length) m
  | [],m,i => by simp [textL]
  | f :: l,m,i => by
    simp only [List.cons_append,textL,textL_append l m (i + 1),List.append_assoc,List.length_cons]
    rw [show i + 1 + l.length = i + (l.length + 1) by omega]
def sepT (i : Nat) : List UInt8 := if i = 0 then [] else [44,32]
theorem textL_take (l : List Fld) (i : Nat) (f : Fld) (hf : l[i]? = some f) : textL 0 (l.take (i + 1)) = textL 0 (l.take i) ++ (sepT i ++ (f.nm ++ (32 :: (textF f ++ if f.nl then [63] else [])))) := by
  rw [List.take_add_one,hf,Option.toList_some,textL_append]
  have : (l.take i).length = i := by rw [List.length_take]; have := (List.getElem?_eq_some_iff.1 hf).1; omega
  rw [this]
  simp [textL,sepT]
theorem textL_le (l : List Fld) (i : Nat) : (textL 0 (l.take i)).length ≤ (textL 0 l).length := by
  conv => rhs; rw [← List.take_append_drop i l,textL_append]
  simp
def FieldsOK (n : Nat) : Prop := ∀ (wb w : World) (L M : Own) (lo : Nat) (v : Value) (k : Nat) (xs : List Value) (l : List Fld) (a : Option Addr) (c : Nat),Sy wb L w → SaysAt wb → lo ≤ wb.heap.size → (∀ p ∈ M,wb.heap.size ≤ p.1) → RowO wb 5 1 L M v k xs → Rd wb lo a l → l.length ≤ c → c ≤ 9223372036854775807 → easyL l = true → SizeOf.sizeOf l < n → k + (textL 0 l).length ≤ 70368744177664 →
  Calls Tryz.prog 57 #[v,.slice a l.length c] w (fun e w' => ∃ v' L',e = .returned v' ∧ Sy wb L' w' ∧ RowO wb 5 1 L' M v' (k + (textL 0 l).length) (xs ++ bytesV (textL 0 l)))
def TypedOK (n : Nat) : Prop := ∀ (wb w : World) (L M : Own) (lo : Nat) (v : Value) (k : Nat) (xs : List Value) (f : Fld) (a : Option Addr) (c : Nat),Sy wb L w → SaysAt wb → lo ≤ wb.heap.size → (∀ p ∈ M,wb.heap.size ≤ p.1) → RowO wb 5 1 L M v k xs → Rd wb lo a f.sub → f.sub.length ≤ c → c ≤ 9223372036854775807 → easyF f = true → SizeOf.sizeOf f < n → k + (textF f).length ≤ 70368744177664 →
  Calls Tryz.prog 90 #[v,.agg (f.tcells a c).toArray] w (fun e w' => ∃ v' L',e = .returned v' ∧ Sy wb L' w' ∧ RowO wb 5 1 L' M v' (k + (textF f).length) (xs ++ bytesV (textF f)))
structure ListI (w0 : World) (M : Own) (f : Fld) (a : Option Addr) (c b3 k : Nat) (xs : List Value) (wb : World) (e : Env) (ds : List Deferred) (L : Own) : Prop where
  hw : wb = w0
  hds : ds = []
  o : ∃ b7 v,w0.heap.size ≤ b7 ∧ e 0 = v ∧ RowO w0 5 1 L ((b7,.cells (bytesV [40]).toArray 5 (0,0)) :: (b3,Obj.cells #[i64 f.k,i64 f.wd,i64 f.id,i64 f.ix,.slice a f.sub.length c] 35 (0,0)) :: M) v (k + (saysWord f.k.toNat).length + 1) (xs ++ bytesV (saysWord f.k.toNat) ++ bytesV [40])
  h3 : e 3 = .pointer (some ⟨b3,0,none⟩)
theorem typed_step (n : Nat) (hF : FieldsOK n) : TypedOK (n + 1) := by
  intro wb w L M lo v k xs f a c hw hs hlo hM hro hr hc hc2 he hsz hlen
  obtain ⟨k1,k2,k14,k16,k19,hel⟩ := (easyF_iff f).1 he
  refine enterB (args := [v,.agg (f.tcells a c).toArray]) Tryz.func90 rfl Tryz.ntmps90 (congrArg Array.toList Tryz.results90) (by kernel_rfl) (by simp) hw ?_
  simp (disch:=omega) only[push_cast,Nat.reduceEqDiff,Fld.tcells]
  refine newI (fun b3 hb3 hn3 => ?_)
  simp (disch:=omega) only[push_cast,Nat.reduceEqDiff]
  repeat' (first | ((first | refine guardX_t rfl (fun h => ?_) (fun h => ?_) | refine guardX_f rfl (fun h => ?_) (fun h => ?_) | refine condX_d (fun h => ?_) (fun h => ?_) | (refine guardX_bt rfl (fun h => ?_) (fun h => ?_) <;> (try subst h)) | (refine guardX_bf rfl (fun h => ?_) (fun h => ?_) <;> (try subst h)) | (refine condX_b (fun h => ?_) (fun h => ?_) <;> (try subst h)) | refine ldOne Shp.eq (by (first | exact mem0 | exact mem1 | exact mem2 | exact mem3)) rfl ?_ | refine loadX_agg Shp.eq (by (first | exact mem0 | exact mem1 | exact mem2 | exact mem3)) rfl rfl ?_ | refine newI (fun b hb hn => ?_) | refine storeX 0 rfl Siz.eq rfl rfl (by simp [Value.oneCell']) (by simp) ?_ | refine storeX 1 rfl Siz.eq rfl rfl (by simp [Value.oneCell']) (by simp) ?_ | refine storeX 2 rfl Siz.eq rfl rfl (by simp [Value.oneCell']) (by simp) ?_ | refine storeX 3 rfl Siz.eq rfl rfl (by simp [Value.oneCell']) (by simp) ?_) <;> simp (disch:=omega) only[push_cast,Nat.reduceEqDiff]))
  have hL3 : ∀ x,∀ p ∈ ((b3,(x : Obj)) :: L),wb.heap.size ≤ p.1 := fun x p hp => by
    rcases List.mem_cons.1 hp with rfl | hp
    · exact hb3
    · exact hro.new hM p hp
  refine ldF sh_9 ((hs.2 f.k.toNat (by omega)).sub 0 [str (saysWord f.k.toNat)] rfl) (out_of (fun p hp => Nat.lt_of_lt_of_le hs.1 (hL3 _ p hp))) ?_
  simp (disch:=omega) only[push_cast,Nat.reduceEqDiff]
  rw [textF_eq,List.length_append] at hlen
  obtain ⟨L1,hro1,hs1⟩ := hro.over (b3,Obj.cells #[i64 f.k,i64 f.wd,i64 f.id,i64 f.ix,.slice a f.sub.length c] 35 (0,0))
  refine valX_weak hs1 (appendS (saysWord f.k.toNat) un_108 Tryz.underlying9 infoU8 hro1 (by omega) (fun v2 L2 hro2 => ?_))
  simp (disch:=omega) only[push_cast,Nat.reduceEqDiff]
  refine ldOne sh_3 (hro2.mem (.head _)) rfl ?_
  have d14 : decide (f.k = 14) = false := decide_eq_false k14
  have d16 : decide (f.k = 16) = false := decide_eq_false k16
  have d19 : decide (f.k = 19) = false := decide_eq_false k19
  simp (disch:=omega) only[push_cast,Nat.reduceEqDiff,d14,d16,d19]
  by_cases hk : listK f.k
  · have hlen2 : k + ((saysWord f.k.toNat).length + (1 + ((textL 0 f.sub).length + 1))) ≤ 70368744177664 := by
      rw [if_pos hk] at hlen
      simp only [List.length_cons,List.length_append,List.length_nil] at hlen
      omega
    have hszs : SizeOf.sizeOf f.sub < n := by
      have : SizeOf.sizeOf f.sub < SizeOf.sizeOf f := by cases f; simp only [Fld.sub,Fld.mk.sizeOf_spec]; omega
      omega
    refine cutV (ListI wb M f a c b3 k xs) ?_ ?_
    · rcases hk with hk | hk | hk | hk
      · have d15 : decide (f.k = 15) = true := decide_eq_true hk
        repeat' (first | ((first | refine guardX_t rfl (fun h => ?_) (fun h => ?_) | refine guardX_f rfl (fun h => ?_) (fun h => ?_) | refine condX_d (fun h => ?_) (fun h => ?_) | (refine guardX_bt rfl (fun h => ?_) (fun h => ?_) <;> (try subst h)) | (refine guardX_bf rfl (fun h => ?_) (fun h => ?_) <;> (try subst h)) | (refine condX_b (fun h => ?_) (fun h => ?_) <;> (try subst h)) | refine ldOne Shp.eq (by (first | exact mem0 | exact mem1 | exact mem2 | exact mem3)) rfl ?_ | refine loadX_agg Shp.eq (by (first | exact mem0 | exact mem1 | exact mem2 | exact mem3)) rfl rfl ?_ | refine newI (fun b hb hn => ?_) | refine storeX 0 rfl Siz.eq rfl rfl (by simp [Value.oneCell']) (by simp) ?_ | refine storeX 1 rfl Siz.eq rfl rfl (by simp [Value.oneCell']) (by simp) ?_ | refine storeX 2 rfl Siz.eq rfl rfl (by simp [Value.oneCell']) (by simp) ?_ | refine storeX 3 rfl Siz.eq rfl rfl (by simp [Value.oneCell']) (by simp) ?_) <;> simp (disch:=omega) only[push_cast,Nat.reduceEqDiff,d14,d16,d19,d15]) | (first | rw [V_cond] | rw [V_block]) <;> (try simp (disch:=omega) only[push_cast,Nat.reduceEqDiff,d14,d16,d19,d15]))
        refine bs_108_1 (newI fun b7 hb7 hn7 => ?_)
        simp (disch:=omega) only[push_cast,Nat.reduceEqDiff,d14,d16,d19,d15]
        refine appendB [40] un_108 infoU8 hro2 hb7 (by simp only [List.length_cons,List.length_nil]; omega) (fun v3 L3 hro3 => ?_)
        simp (disch:=omega) only[push_cast,Nat.reduceEqDiff,d14,d16,d19,d15]
        exact ⟨rfl,rfl,⟨b7,v3,hb7,rfl,hro3⟩,rfl⟩
      · have d15 : decide (f.k = 15) = false := decide_eq_false (by omega)
        have d17 : decide (f.k = 17) = true := decide_eq_true hk
        repeat' (first | ((first | refine guardX_t rfl (fun h => ?_) (fun h => ?_) | refine guardX_f rfl (fun h => ?_) (fun h => ?_) | refine condX_d (fun h => ?_) (fun h => ?_) | (refine guardX_bt rfl (fun h => ?_) (fun h => ?_) <;> (try subst h)) | (refine guardX_bf rfl (fun h => ?_) (fun h => ?_) <;> (try subst h)) | (refine condX_b (fun h => ?_) (fun h => ?_) <;> (try subst h)) | refine ldOne Shp.eq (by (first | exact mem0 | exact mem1 | exact mem2 | exact mem3)) rfl ?_ | refine loadX_agg Shp.eq (by (first | exact mem0 | exact mem1 | exact mem2 | exact mem3)) rfl rfl ?_ | refine newI (fun b hb hn => ?_) | refine storeX 0 rfl Siz.eq rfl rfl (by simp [Value.oneCell']) (by simp) ?_ | refine storeX 1 rfl Siz.eq rfl rfl (by simp [Value.oneCell']) (by simp) ?_ | refine storeX 2 rfl Siz.eq rfl rfl (by simp [Value.oneCell']) (by simp) ?_ | refine storeX 3 rfl Siz.eq rfl rfl (by simp [Value.oneCell']) (by simp) ?_) <;> simp (disch:=omega) only[push_cast,Nat.reduceEqDiff,d14,d16,d19,d15,d17]) | (first | rw [V_cond] | rw [V_block]) <;> (try simp (disch:=omega) only[push_cast,Nat.reduceEqDiff,d14,d16,d19,d15,d17]))
        refine bs_108_1 (newI fun b7 hb7 hn7 => ?_)
        simp (disch:=omega) only[push_cast,Nat.reduceEqDiff,d14,d16,d19,d15,d17]
        refine appendB [40] un_108 infoU8 hro2 hb7 (by simp only [List.length_cons,List.length_nil]; omega) (fun v3 L3 hro3 => ?_)
        simp (disch:=omega) only[push_cast,Nat.reduceEqDiff,d14,d16,d19,d15,d17]
        exact ⟨rfl,rfl,⟨b7,v3,hb7,rfl,hro3⟩,rfl⟩
      · have d15 : decide (f.k = 15) = false := decide_eq_false (by omega)
        have d17 : decide (f.k = 17) = false := decide_eq_false (by omega)
        have d18 : decide (f.k = 18) = true := decide_eq_true hk
        repeat' (first | ((first | refine guardX_t rfl (fun h => ?_) (fun h => ?_) | refine guardX_f rfl (fun h => ?_) (fun h => ?_) | refine condX_d (fun h => ?_) (fun h => ?_) | (refine guardX_bt rfl (fun h => ?_) (fun h => ?_) <;> (try subst h)) | (refine guardX_bf rfl (fun h => ?_) (fun h => ?_) <;> (try subst h)) | (refine condX_b (fun h => ?_) (fun h => ?_) <;> (try subst h)) | refine ldOne Shp.eq (by (first | exact mem0 | exact mem1 | exact mem2 | exact mem3)) rfl ?_ | refine loadX_agg Shp.eq (by (first | exact mem0 | exact mem1 | exact mem2 | exact mem3)) rfl rfl ?_ | refine newI (fun b hb hn => ?_) | refine storeX 0 rfl Siz.eq rfl rfl (by simp [Value.oneCell']) (by simp) ?_ | refine storeX 1 rfl Siz.eq rfl rfl (by simp [Value.oneCell']) (by simp) ?_ | refine storeX 2 rfl Siz.eq rfl rfl (by simp [Value.oneCell']) (by simp) ?_ | refine storeX 3 rfl Siz.eq rfl rfl (by simp [Value.oneCell']) (by simp) ?_) <;> simp (disch:=omega) only[push_cast,Nat.reduceEqDiff,d14,d16,d19,d15,d17,d18]) | (first | rw [V_cond] | rw [V_block]) <;> (try simp (disch:=omega) only[push_cast,Nat.reduceEqDiff,d14,d16,d19,d15,d17,d18]))
        refine bs_108_1 (newI fun b7 hb7 hn7 => ?_)
        simp (disch:=omega) only[push_cast,Nat.reduceEqDiff,d14,d16,d19,d15,d17,d18]
        refine appendB [40] un_108 infoU8 hro2 hb7 (by simp only [List.length_cons,List.length_nil]; omega) (fun v3 L3 hro3 => ?_)
        simp (disch:=omega) only[push_cast,Nat.reduceEqDiff,d14,d16,d19,d15,d17,d18]
        exact ⟨rfl,rfl,⟨b7,v3,hb7,rfl,hro3⟩,rfl⟩
      · have d15 : decide (f.k = 15) = false := decide_eq_false (by omega)
        have d17 : decide (f.k = 17) = false := decide_eq_false (by omega)
        have d18 : decide (f.k = 18) = false := decide_eq_false (by omega)
        have d20 : decide (f.k = 20) = true := decide_eq_true hk
        repeat' (first | ((first | refine guardX_t rfl (fun h => ?_) (fun h => ?_) | refine guardX_f rfl (fun h => ?_) (fun h => ?_) | refine condX_d (fun h => ?_) (fun h => ?_) | (refine guardX_bt rfl (fun h => ?_) (fun h => ?_) <;> (try subst h)) | (refine guardX_bf rfl (fun h => ?_) (fun h => ?_) <;> (try subst h)) | (refine condX_b (fun h => ?_) (fun h => ?_) <;> (try subst h)) | refine ldOne Shp.eq (by (first | exact mem0 | exact mem1 | exact mem2 | exact mem3)) rfl ?_ | refine loadX_agg Shp.eq (by (first | exact mem0 | exact mem1 | exact mem2 | exact mem3)) rfl rfl ?_ | refine newI (fun b hb hn => ?_) | refine storeX 0 rfl Siz.eq rfl rfl (by simp [Value.oneCell']) (by simp) ?_ | refine storeX 1 rfl Siz.eq rfl rfl (by simp [Value.oneCell']) (by simp) ?_ | refine storeX 2 rfl Siz.eq rfl rfl (by simp [Value.oneCell']) (by simp) ?_ | refine storeX 3 rfl Siz.eq rfl rfl (by simp [Value.oneCell']) (by simp) ?_) <;> simp (disch:=omega) only[push_cast,Nat.reduceEqDiff,d14,d16,d19,d15,d17,d18,d20]) | (first | rw [V_cond] | rw [V_block]) <;> (try simp (disch:=omega) only[push_cast,Nat.reduceEqDiff,d14,d16,d19,d15,d17,d18,d20]))
        refine bs_108_1 (newI fun b7 hb7 hn7 => ?_)
        simp (disch:=omega) only[push_cast,Nat.reduceEqDiff,d14,d16,d19,d15,d17,d18,d20]
        refine appendB [40] un_108 infoU8 hro2 hb7 (by simp only [List.length_cons,List.length_nil]; omega) (fun v3 L3 hro3 => ?_)
        simp (disch:=omega) only[push_cast,Nat.reduceEqDiff,d14,d16,d19,d15,d17,d18,d20]
        exact ⟨rfl,rfl,⟨b7,v3,hb7,rfl,hro3⟩,rfl⟩
    · rintro wb e ds L ⟨rfl,rfl,⟨b7,v3,hb7,h0,hro3⟩,h3⟩
      simp (disch:=omega) only[push_cast,Nat.reduceEqDiff,h0,h3]
      refine ldOne sh_24 (hro3.mem (.tail _ (.head _))) rfl ?_
      simp (disch:=omega) only[push_cast,Nat.reduceEqDiff,h0,h3]
      have hM7 : ∀ p ∈ ((b7,Obj.cells (bytesV [40]).toArray 5 (0,0)) :: (b3,Obj.cells #[i64 f.k,i64 f.wd,i64 f.id,i64 f.ix,.slice a f.sub.length c] 35 (0,0)) :: M),wb.heap.size ≤ p.1 := fun p hp => by
        simp only [List.mem_cons] at hp
        rcases hp with rfl | rfl | hp
        · exact hb7
        · exact hb3
        · exact hM p hp
      refine callV en_57 (callX_own (fun w' hw' => hF wb w' _ _ lo v3 _ _ f.sub a c hw' hs hlo hM7 hro3 hr hc hc2 hel hszs (by omega)) (fun v4 L4 hro4 => ?_))
      simp (disch:=omega) only[push_cast,Nat.reduceEqDiff,h0,h3]
      refine bs_108_1 (newI fun b8 hb8 hn8 => ?_)
      simp (disch:=omega) only[push_cast,Nat.reduceEqDiff,h0,h3]
      refine appendB [41] un_108 infoU8 hro4 hb8 (by simp only [List.length_cons,List.length_nil]; omega) (fun v5 L5 hro5 => ?_)
      simp (disch:=omega) only[push_cast,Nat.reduceEqDiff,h0,h3]
      obtain ⟨L6,hro6,hs6⟩ := RowO.shrink [(b8,Obj.cells (bytesV [41]).toArray 5 (0,0)),(b7,Obj.cells (bytesV [40]).toArray 5 (0,0)),(b3,Obj.cells #[i64 f.k,i64 f.wd,i64 f.id,i64 f.ix,.slice a f.sub.length c] 35 (0,0))] hro5 (fun p hp => by
        simp only [List.mem_cons,List.mem_nil_iff,or_false] at hp
        rcases hp with rfl | rfl | rfl <;> assumption)
      have htx : textF f = saysWord f.k.toNat ++ ([40] ++ (textL 0 f.sub ++ [41])) := by rw [textF_eq,if_pos hk]; rfl
      rw [htx]
      exact fun w' hw' => ⟨_,L6,rfl,hs6 _ hw',hro6.cast (by simp only [List.length_append,List.length_cons,List.length_nil]; omega) (by simp only [bytesV_append,List.append_assoc])⟩
  · have d15 : decide (f.k = 15) = false := decide_eq_false (fun h => hk (.inl h))
    have d17 : decide (f.k = 17) = false := decide_eq_false (fun h => hk (.inr (.inl h)))
    have d18 : decide (f.k = 18) = false := decide_eq_false (fun h => hk (.inr (.inr (.inl h))))
    have d20 : decide (f.k = 20) = false := decide_eq_false (fun h => hk (.inr (.inr (.inr h))))
    repeat' (first | ((first | refine guardX_t rfl (fun h => ?_) (fun h => ?_) | refine guardX_f rfl (fun h => ?_) (fun h => ?_) | refine condX_d (fun h => ?_) (fun h => ?_) | (refine guardX_bt rfl (fun h => ?_) (fun h => ?_) <;> (try subst h)) | (refine guardX_bf rfl (fun h => ?_) (fun h => ?_) <;> (try subst h)) | (refine condX_b (fun h => ?_) (fun h => ?_) <;> (try subst h)) | refine ldOne Shp.eq (by (first | exact mem0 | exact mem1 | exact mem2 | exact mem3)) rfl ?_ | refine loadX_agg Shp.eq (by (first | exact mem0 | exact mem1 | exact mem2 | exact mem3)) rfl rfl ?_ | refine newI (fun b hb hn => ?_) | refine storeX 0 rfl Siz.eq rfl rfl (by simp [Value.oneCell']) (by simp) ?_ | refine storeX 1 rfl Siz.eq rfl rfl (by simp [Value.oneCell']) (by simp) ?_ | refine storeX 2 rfl Siz.eq rfl rfl (by simp [Value.oneCell']) (by simp) ?_ | refine storeX 3 rfl Siz.eq rfl rfl (by simp [Value.oneCell']) (by simp) ?_) <;> simp (disch:=omega) only[push_cast,Nat.reduceEqDiff,d14,d16,d19,d15,d17,d18,d20]) | (first | rw [V_cond] | rw [V_block]) <;> (try simp (disch:=omega) only[push_cast,Nat.reduceEqDiff,d14,d16,d19,d15,d17,d18,d20]))
    obtain ⟨L4,hro4,hs4⟩ := RowO.shrink [(b3,Obj.cells #[i64 f.k,i64 f.wd,i64 f.id,i64 f.ix,.slice a f.sub.length c] 35 (0,0))] hro2 (fun p hp => by rw [List.mem_singleton.1 hp]; exact hb3)
    have htx : textF f = saysWord f.k.toNat := by rw [textF_eq,if_neg hk,List.append_nil]
    rw [htx]
    exact fun w' hw' => ⟨_,L4,rfl,hs4 _ hw',hro4⟩
end Go.Proofs.YtdmdgkpjjpijdaaGreatDoor
