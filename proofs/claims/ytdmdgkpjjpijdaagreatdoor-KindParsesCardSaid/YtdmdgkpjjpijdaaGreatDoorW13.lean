/- YtdmdgkpjjpijdaaGreatDoor: walks, part 12: the text of a list of fields. -/
import Derived.Test.YtdmdgkpjjpijdaaGreatDoorW11
import Derived.Test.YtdmdgkpjjpijdaaGreatDoorKn
namespace Go.Proofs.YtdmdgkpjjpijdaaGreatDoor
open Go Go.K
set_option maxRecDepth 100000
set_option linter.unusedVariables false
set_option linter.unusedSimpArgs false
set_option maxHeartbeats 4000000
structure FldsI (w0 : World) (M : Own) (l : List Fld) (a : Option Addr) (c k : Nat) (xs : List Value) (i : Nat) (wb : World) (e : Env) (ds : List Deferred) (L : Own) : Prop where
  hw : wb = w0
  hds : ds = []
  o : RowO w0 5 1 L M (e 0) (k + (textL 0 (l.take i)).length) (xs ++ bytesV (textL 0 (l.take i)))
  il : i ≤ l.length
  h1 : e 1 = .slice a l.length c
  h7 : e 7 = .slice a l.length c
  h8 : e 8 = i64 l.length
  h9 : e 9 = i64 i
structure FldsJ (w0 : World) (M : Own) (l : List Fld) (a : Option Addr) (c k : Nat) (xs : List Value) (i : Nat) (f : Fld) (fa : Option Addr) (fc b6 : Nat) (wb : World) (e : Env) (ds : List Deferred) (L : Own) : Prop where
  hw : wb = w0
  hds : ds = []
  o : ∃ L2,(∀ w,Sy w0 L w → Sy w0 L2 w) ∧ RowO w0 5 1 L2 ((b6,Obj.cells #[str f.nm,.bool f.nl,i64 f.k,i64 f.wd,i64 f.id,i64 f.ix,.slice fa f.sub.length fc] 37 (0,0)) :: M) (e 0) (k + (textL 0 (l.take i)).length + (sepT i).length) (xs ++ bytesV (textL 0 (l.take i)) ++ bytesV (sepT i))
  m : (b6,Obj.cells #[str f.nm,.bool f.nl,i64 f.k,i64 f.wd,i64 f.id,i64 f.ix,.slice fa f.sub.length fc] 37 (0,0)) ∈ L
  h1 : e 1 = .slice a l.length c
  h6 : e 6 = .pointer (some ⟨b6,0,none⟩)
  h7 : e 7 = .slice a l.length c
  h8 : e 8 = i64 l.length
  h9 : e 9 = i64 i
theorem fields_step (n : Nat) (hT : TypedOK n) : FieldsOK (n + 1) := by
  intro wb w L M lo v k xs l a c hw hs hlo hM hro hr hc hc2 he hsz hlen
  refine enterB (args := [v,.slice a l.length c]) Tryz.func57 rfl Tryz.ntmps57 (congrArg Array.toList Tryz.results57) (by kernel_rfl) (by simp) hw ?_
  simp (disch:=omega) only[push_cast,Nat.reduceEqDiff]
  repeat' (first | ((first | refine guardX_t rfl (fun h => ?_) (fun h => ?_) | refine guardX_f rfl (fun h => ?_) (fun h => ?_) | refine condX_d (fun h => ?_) (fun h => ?_) | (refine guardX_bt rfl (fun h => ?_) (fun h => ?_) <;> (try subst h)) | (refine guardX_bf rfl (fun h => ?_) (fun h => ?_) <;> (try subst h)) | (refine condX_b (fun h => ?_) (fun h => ?_) <;> (try subst h)) | refine ldOne Shp.eq (by (first | exact mem0 | exact mem1 | exact mem2 | exact mem3)) rfl ?_ | refine loadX_agg Shp.eq (by (first | exact mem0 | exact mem1 | exact mem2 | exact mem3)) rfl rfl ?_ | refine newI (fun b hb hn => ?_) | refine storeX 0 rfl Siz.eq rfl rfl (by simp [Value.oneCell']) (by simp) ?_ | refine storeX 1 rfl Siz.eq rfl rfl (by simp [Value.oneCell']) (by simp) ?_ | refine storeX 2 rfl Siz.eq rfl rfl (by simp [Value.oneCell']) (by simp) ?_ | refine storeX 3 rfl Siz.eq rfl rfl (by simp [Value.oneCell']) (by simp) ?_) <;> simp (disch:=omega) only[push_cast,Nat.reduceEqDiff]))
  rw [V_block]
  simp (disch:=omega) only[push_cast,Nat.reduceEqDiff]
  refine loopW (G := Nat) (FldsI wb M l a c k xs) (fun i => l.length - i) 0 L (fun w hw => hw) (by kernel_rfl) ⟨rfl,rfl,hro.cast (by simp [textL]) (by simp [textL,bytesV]),by omega,rfl,rfl,rfl,rfl⟩ ?_
  clear hw hro
  rintro i wb e ds L ⟨rfl,rfl,hro,hil,h1,h7,h8,h9⟩
  obtain ⟨v0,h0⟩ : ∃ v0,e 0 = v0 := ⟨_,rfl⟩
  rw [h0] at hro
  simp (disch:=omega) only[push_cast,Nat.reduceEqDiff,h0,h1,h7,h8,h9]
  rw [V_cond]
  simp (disch:=omega) only[push_cast,Nat.reduceEqDiff,h0,h1,h7,h8,h9]
  have hLn := hro.new hM
  refine condX_d (fun hlt => ?_) (fun hge => ?_)
  · obtain ⟨f,hf⟩ : ∃ f,l[i]? = some f := ⟨_,List.getElem?_eq_getElem (by omega)⟩
    have htake : textL 0 (l.take (i + 1)) = textL 0 (l.take i) ++ (sepT i ++ (f.nm ++ ([32] ++ (textF f ++ if f.nl then [63] else [])))) := textL_take l i f hf
    have hle := textL_le l (i + 1)
    rw [htake] at hle
    simp only [List.length_append,List.length_cons,List.length_nil] at hle
    have hef := easyL_get he hf
    have hszf : SizeOf.sizeOf f < n := by
      have := List.sizeOf_lt_of_mem (List.mem_of_getElem? hf)
      omega
    obtain ⟨b,off,rfl,hb⟩ : ∃ b off,a = some ⟨b,off,none⟩ ∧ b < lo := by
      obtain ⟨f0,l0,rfl⟩ : ∃ f l',l = f :: l' := List.exists_cons_of_ne_nil (by rintro rfl; simp at hf)
      exact hr.some_of
    obtain ⟨fa,fc,x1,x2,x3,x4,x5,x6⟩ := hr.get i hf
    simp (disch:=omega) only[push_cast,Nat.reduceEqDiff,h0,h1,h7,h8,h9]
    rw [V_block]
    simp (disch:=omega) only[push_cast,Nat.reduceEqDiff,h0,h1,h7,h8,h9]
    refine ldAggF sh_37 x2 rfl (out_of (fun p hp => Nat.lt_of_lt_of_le (Nat.lt_of_lt_of_le x1 hlo) (hLn p hp))) ?_
    simp (disch:=omega) only[push_cast,Nat.reduceEqDiff,h0,h1,h7,h8,h9,Fld.cells]
    refine newI (fun b6 hb6 hn6 => ?_)
    simp (disch:=omega) only[push_cast,Nat.reduceEqDiff,h0,h1,h7,h8,h9]
    repeat' (first | ((first | refine guardX_t rfl (fun h => ?_) (fun h => ?_) | refine guardX_f rfl (fun h => ?_) (fun h => ?_) | refine condX_d (fun h => ?_) (fun h => ?_) | (refine guardX_bt rfl (fun h => ?_) (fun h => ?_) <;> (try subst h)) | (refine guardX_bf rfl (fun h => ?_) (fun h => ?_) <;> (try subst h)) | (refine condX_b (fun h => ?_) (fun h => ?_) <;> (try subst h)) | refine ldOne Shp.eq (by (first | exact mem0 | exact mem1 | exact mem2 | exact mem3)) rfl ?_ | refine loadX_agg Shp.eq (by (first | exact mem0 | exact mem1 | exact mem2 | exact mem3)) rfl rfl ?_ | refine newI (fun b hb hn => ?_) | refine storeX 0 rfl Siz.eq rfl rfl (by simp [Value.oneCell']) (by simp) ?_ | refine storeX 1 rfl Siz.eq rfl rfl (by simp [Value.oneCell']) (by simp) ?_ | refine storeX 2 rfl Siz.eq rfl rfl (by simp [Value.oneCell']) (by simp) ?_ | refine storeX 3 rfl Siz.eq rfl rfl (by simp [Value.oneCell']) (by simp) ?_) <;> simp (disch:=omega) only[push_cast,Nat.reduceEqDiff,h0,h1,h7,h8,h9]))
    obtain ⟨L1,hro1,hs1⟩ := hro.over (b6,Obj.cells #[str f.nm,.bool f.nl,i64 f.k,i64 f.wd,i64 f.id,i64 f.ix,.slice fa f.sub.length fc] 37 (0,0))
    refine cutV (FldsJ wb M l (some ⟨b,off,none⟩) c k xs i f fa fc b6) ?_ ?_
    · rw [V_cond]
      simp (disch:=omega) only[push_cast,Nat.reduceEqDiff,h0,h1,h7,h8,h9]
      refine condX_d (fun hi0 => ?_) (fun hi0 => ?_)
      · simp (disch:=omega) only[push_cast,Nat.reduceEqDiff,h0,h1,h7,h8,h9]
        have hsep : sepT i = [44,32] := by unfold sepT; rw [if_neg (by omega)]
        rw [hsep] at hle
        simp only [List.length_cons,List.length_nil] at hle
        refine valX_weak hs1 (appendS [44,32] un_108 Tryz.underlying9 infoU8 hro1 (by simp only [List.length_cons,List.length_nil]; omega) (fun v2 L2 hro2 => ?_))
        simp (disch:=omega) only[push_cast,Nat.reduceEqDiff,h0,h1,h7,h8,h9]
        exact ⟨rfl,rfl,⟨L2,fun w hw => hw,hro2.cast (by rw [hsep]) (by rw [hsep])⟩,hro2.mem (.head _),h1,rfl,h7,h8,h9⟩
      · simp (disch:=omega) only[push_cast,Nat.reduceEqDiff,h0,h1,h7,h8,h9]
        have hsep : sepT i = [] := by unfold sepT; rw [if_pos (by omega)]
        exact ⟨rfl,rfl,⟨L1,hs1,by have h := hro1.cast (n' := k + (textL 0 (l.take i)).length + (sepT i).length) (xs' := xs ++ bytesV (textL 0 (l.take i)) ++ bytesV (sepT i)) (by rw [hsep]; rfl) (by rw [hsep]; simp [bytesV]); rw [← h0] at h; exact h⟩,.head _,h1,rfl,h7,h8,h9⟩
    · rintro wb e ds L ⟨rfl,rfl,⟨L2,hs2,hro2⟩,hm6,h1,h6,h7,h8,h9⟩
      obtain ⟨v0,h0⟩ : ∃ v0,e 0 = v0 := ⟨_,rfl⟩
      rw [h0] at hro2
      simp (disch:=omega) only[push_cast,Nat.reduceEqDiff,h0,h1,h6,h7,h8,h9]
      refine ldOne sh_9 hm6 rfl ?_
      simp (disch:=omega) only[push_cast,Nat.reduceEqDiff,h0,h1,h6,h7,h8,h9]
      refine valX_weak hs2 (appendS f.nm un_108 Tryz.underlying9 infoU8 hro2 (by omega) (fun v3 L3 hro3 => ?_))
      simp (disch:=omega) only[push_cast,Nat.reduceEqDiff,h0,h1,h6,h7,h8,h9]
      refine bs_108_1 (newI fun b7 hb7 hn7 => ?_)
      simp (disch:=omega) only[push_cast,Nat.reduceEqDiff,h0,h1,h6,h7,h8,h9]
      refine appendB [32] un_108 infoU8 hro3 hb7 (by simp only [List.length_cons,List.length_nil]; omega) (fun v4 L4 hro4 => ?_)
      simp (disch:=omega) only[push_cast,Nat.reduceEqDiff,h0,h1,h6,h7,h8,h9]
      refine loadX_agg sh_35 (hro4.mem (.tail _ (.head _))) rfl rfl ?_
      simp (disch:=omega) only[push_cast,Nat.reduceEqDiff,h0,h1,h6,h7,h8,h9]
      have hM7 : ∀ p ∈ ((b7,Obj.cells (bytesV [32]).toArray 5 (0,0)) :: (b6,Obj.cells #[str f.nm,.bool f.nl,i64 f.k,i64 f.wd,i64 f.id,i64 f.ix,.slice fa f.sub.length fc] 37 (0,0)) :: M),wb.heap.size ≤ p.1 := fun p hp => by
        simp only [List.mem_cons] at hp
        rcases hp with rfl | rfl | hp
        · exact hb7
        · exact hb6
        · exact hM p hp
      refine callV en_90 (callX_own (fun w' hw' => hT wb w' _ _ lo v4 _ _ f fa fc hw' hs hlo hM7 hro4 x6 x3 x5 hef hszf (by simp only [List.length_cons,List.length_nil]; omega)) (fun v5 L5 hro5 => ?_))
      simp (disch:=omega) only[push_cast,Nat.reduceEqDiff,h0,h1,h6,h7,h8,h9]
      refine ldOne sh_4 (hro5.mem (.tail _ (.head _))) rfl ?_
      simp (disch:=omega) only[push_cast,Nat.reduceEqDiff,h0,h1,h6,h7,h8,h9]
      rw [V_cond]
      simp (disch:=omega) only[push_cast,Nat.reduceEqDiff,h0,h1,h6,h7,h8,h9]
      obtain ⟨L6,hro6,hs6⟩ := RowO.shrink [(b7,Obj.cells (bytesV [32]).toArray 5 (0,0)),(b6,Obj.cells #[str f.nm,.bool f.nl,i64 f.k,i64 f.wd,i64 f.id,i64 f.ix,.slice fa f.sub.length fc] 37 (0,0))] hro5 (fun p hp => by
        simp only [List.mem_cons,List.mem_nil_iff,or_false] at hp
        rcases hp with rfl | rfl <;> assumption)
      refine condX_b (fun hnl => ?_) (fun hnl => ?_)
      · simp (disch:=omega) only[push_cast,Nat.reduceEqDiff,h0,h1,h6,h7,h8,h9]
        refine bs_108_1 (newI fun b8 hb8 hn8 => ?_)
        simp (disch:=omega) only[push_cast,Nat.reduceEqDiff,h0,h1,h6,h7,h8,h9]
        rw [hnl] at hle
        simp only [if_true,List.length_cons,List.length_nil] at hle
        refine appendB [63] un_108 infoU8 hro5 hb8 (by simp only [List.length_cons,List.length_nil]; omega) (fun v6 L7 hro7 => ?_)
        simp (disch:=omega) only[push_cast,Nat.reduceEqDiff,h0,h1,h6,h7,h8,h9]
        obtain ⟨L8,hro8,hs8⟩ := RowO.shrink [(b8,Obj.cells (bytesV [63]).toArray 5 (0,0)),(b7,Obj.cells (bytesV [32]).toArray 5 (0,0)),(b6,Obj.cells #[str f.nm,.bool f.nl,i64 f.k,i64 f.wd,i64 f.id,i64 f.ix,.slice fa f.sub.length fc] 37 (0,0))] hro7 (fun p hp => by
          simp only [List.mem_cons,List.mem_nil_iff,or_false] at hp
          rcases hp with rfl | rfl | rfl <;> assumption)
        refine ⟨i + 1,L8,hs8,⟨rfl,rfl,hro8.cast ?_ ?_,by omega,h1,h7,h8,by simp only [upd]; rfl⟩,by omega⟩
        · rw [htake,hnl]; simp only [if_true,List.length_append,List.length_cons,List.length_nil]; omega
        · rw [htake,hnl]; simp only [if_true,bytesV_append,List.append_assoc]
      · simp (disch:=omega) only[push_cast,Nat.reduceEqDiff,h0,h1,h6,h7,h8,h9]
        refine ⟨i + 1,L6,hs6,⟨rfl,rfl,hro6.cast ?_ ?_,by omega,h1,h7,h8,by simp only [upd]; rfl⟩,by omega⟩
        · rw [htake,hnl]; simp only [Bool.false_eq_true,if_false,List.append_nil,List.length_append,List.length_cons,List.length_nil]; omega
        · rw [htake,hnl]; simp only [Bool.false_eq_true,if_false,List.append_nil,bytesV_append,List.append_assoc]
  · obtain rfl : i = l.length := by omega
    simp (disch:=omega) only[push_cast,Nat.reduceEqDiff,h0,h1,h7,h8,h9]
    rw [List.take_length] at hro
    exact fun w' hw' => ⟨_,L,rfl,hw',hro⟩
end Go.Proofs.YtdmdgkpjjpijdaaGreatDoor
namespace Go.Proofs.YtdmdgkpjjpijdaaGreatDoor
open Go Go.K
set_option maxRecDepth 100000
set_option linter.unusedVariables false
set_option linter.unusedSimpArgs false
set_option maxHeartbeats 4000000
theorem texts_ok : ∀ n,FieldsOK n ∧ TypedOK n
  | 0 => ⟨fun wb w L M lo v k xs l a c _ _ _ _ _ _ _ _ _ h => by omega,fun wb w L M lo v k xs f a c _ _ _ _ _ _ _ _ _ h => by omega⟩
  | n + 1 => ⟨fields_step n (texts_ok n).2,typed_step n (texts_ok n).1⟩
def printP (l : List Fld) : List UInt8 × Int := if mayP l [] then (textL 0 l,0) else ([],5)
theorem print_walk (w : World) (hs : SaysAt w) (lo : Nat) (hlo : lo ≤ w.heap.size) (a : Option Addr) (l : List Fld) (c : Nat) (na : Option Addr) (nc : Nat) (h : SchAt w lo a l c na [] nc) (he : mayP l [] = true → easyL l = true ∧ (textL 0 l).length ≤ 70368744177664) :
    Calls Tryz.prog 18 #[schV a l c na [] nc] w (Rets w (Is (.tuple #[str (printP l).1,i64 (printP l).2]))) := by
  refine enterT (args := [schV a l c na [] nc]) Tryz.func18 rfl Tryz.ntmps18 (congrArg Array.toList Tryz.results18) (by kernel_rfl) (by simp) (Sy.refl w) ?_
  simp (disch:=omega) only[push_cast,Nat.reduceEqDiff,schV]
  refine newI (fun b1 hb1 hn1 => ?_)
  have hL : ∀ p ∈ [(b1,Obj.cells #[.slice a l.length c,.slice na 0 nc] 27 (0,0))],w.heap.size ≤ p.1 := by
    intro p hp
    rw [List.mem_singleton.1 hp]; exact hb1
  simp (disch:=omega) only[push_cast,Nat.reduceEqDiff]
  repeat' (first | ((first | refine guardX_t rfl (fun h => ?_) (fun h => ?_) | refine guardX_f rfl (fun h => ?_) (fun h => ?_) | refine condX_d (fun h => ?_) (fun h => ?_) | (refine guardX_bt rfl (fun h => ?_) (fun h => ?_) <;> (try subst h)) | (refine guardX_bf rfl (fun h => ?_) (fun h => ?_) <;> (try subst h)) | (refine condX_b (fun h => ?_) (fun h => ?_) <;> (try subst h)) | refine ldOne Shp.eq (by (first | exact mem0 | exact mem1 | exact mem2 | exact mem3)) rfl ?_ | refine loadX_agg Shp.eq (by (first | exact mem0 | exact mem1 | exact mem2 | exact mem3)) rfl rfl ?_ | refine newI (fun b hb hn => ?_) | refine storeX 0 rfl Siz.eq rfl rfl (by simp [Value.oneCell']) (by simp) ?_ | refine storeX 1 rfl Siz.eq rfl rfl (by simp [Value.oneCell']) (by simp) ?_ | refine storeX 2 rfl Siz.eq rfl rfl (by simp [Value.oneCell']) (by simp) ?_ | refine storeX 3 rfl Siz.eq rfl rfl (by simp [Value.oneCell']) (by simp) ?_) <;> simp (disch:=omega) only[push_cast,Nat.reduceEqDiff]))
  have h' := fun w' hw' => h.sy hlo (w' := w') hw' (fun p hp => Nat.le_trans hlo (hL p hp))
  refine callV en_56 (callX_is (fun w' hw' => may_walk w' (hs.mono hw' hL) lo (Nat.le_trans hlo hw'.size) a l c na [] nc (h' w' hw')) ?_)
  simp (disch:=omega) only[push_cast,Nat.reduceEqDiff]
  rw [V_cond]
  simp (disch:=omega) only[push_cast,Nat.reduceEqDiff]
  refine condX_b (fun hm => ?_) (fun hm => ?_)
  · have hm' : mayP l [] = false := by simpa using hm
    simp (disch:=omega) only[push_cast,Nat.reduceEqDiff]
    exact finIs hL (by simp [printP,hm'])
  · have hm' : mayP l [] = true := by simpa using hm
    simp (disch:=omega) only[push_cast,Nat.reduceEqDiff]
    repeat' (first | ((first | refine guardX_t rfl (fun h => ?_) (fun h => ?_) | refine guardX_f rfl (fun h => ?_) (fun h => ?_) | refine condX_d (fun h => ?_) (fun h => ?_) | (refine guardX_bt rfl (fun h => ?_) (fun h => ?_) <;> (try subst h)) | (refine guardX_bf rfl (fun h => ?_) (fun h => ?_) <;> (try subst h)) | (refine condX_b (fun h => ?_) (fun h => ?_) <;> (try subst h)) | refine ldOne Shp.eq (by (first | exact mem0 | exact mem1 | exact mem2 | exact mem3)) rfl ?_ | refine loadX_agg Shp.eq (by (first | exact mem0 | exact mem1 | exact mem2 | exact mem3)) rfl rfl ?_ | refine newI (fun b hb hn => ?_) | refine storeX 0 rfl Siz.eq rfl rfl (by simp [Value.oneCell']) (by simp) ?_ | refine storeX 1 rfl Siz.eq rfl rfl (by simp [Value.oneCell']) (by simp) ?_ | refine storeX 2 rfl Siz.eq rfl rfl (by simp [Value.oneCell']) (by simp) ?_ | refine storeX 3 rfl Siz.eq rfl rfl (by simp [Value.oneCell']) (by simp) ?_) <;> simp (disch:=omega) only[push_cast,Nat.reduceEqDiff]))
    refine callV en_57 (callX_own (fun w' hw' => (texts_ok (SizeOf.sizeOf l + 1)).1 w w' _ _ lo (.slice none 0 0) 0 [] l a c hw' hs hlo hL ⟨rfl,.inl ⟨rfl,rfl,rfl⟩⟩ h.hr h.hc h.hc2 (he hm').1 (by omega) (by have := (he hm').2; omega)) (fun v2 L2 hro => ?_))
    simp (disch:=omega) only[push_cast,Nat.reduceEqDiff]
    refine ldOne sh_25 (hro.mem (.head _)) rfl ?_
    simp (disch:=omega) only[push_cast,Nat.reduceEqDiff]
    rw [V_block]
    simp (disch:=omega) only[push_cast,Nat.reduceEqDiff]
    refine loopT (G := Nat) (fun _ wb e ds L => wb = w ∧ ds = [] ∧ L = L2 ∧ e 4 = v2 ∧ e 15 = i64 0 ∧ e 16 = i64 0) (fun i => i) 0 (by kernel_rfl) ⟨rfl,rfl,rfl,rfl,rfl,rfl⟩ ?_
    rintro i wb e ds L ⟨rfl,rfl,rfl,e4,e15,e16⟩
    simp (disch:=omega) only[push_cast,Nat.reduceEqDiff,e4,e15,e16]
    rw [V_cond]
    simp (disch:=omega) only[push_cast,Nat.reduceEqDiff,e4,e15,e16]
    refine condX_d (fun hlt => absurd hlt (by omega)) (fun hge => ?_)
    simp (disch:=omega) only[push_cast,Nat.reduceEqDiff,e4,e15,e16]
    refine convS un_108 Tryz.underlying5 Tryz.underlying9 (s := textL 0 l) hro ?_
    simp (disch:=omega) only[push_cast,Nat.reduceEqDiff,e4,e15,e16]
    exact finIs (hro.new hL) (by simp [printP,hm'])
end Go.Proofs.YtdmdgkpjjpijdaaGreatDoor
