/- YtdmdgkpjjpijdaaGreatDoor: walks, part 192: the reference's: how many fields a field is, and the place to which a way leads. -/
import Derived.Test.YtdmdgkpjjpijdaaGreatDoorW60
import Derived.Test.YtdmdgkpjjpijdaaGreatDoorW168
import Derived.Test.YtdmdgkpjjpijdaaGreatDoorW172
namespace Go.Proofs.YtdmdgkpjjpijdaaGreatDoor
open Go Go.K
set_option maxRecDepth 100000
set_option linter.unusedVariables false
set_option linter.unusedSimpArgs false
set_option maxHeartbeats 4000000
def CntOK (n : Nat) : Prop := ∀ (w : World) (lo : Nat) (f : Fld) (a : Option Addr) (c : Nat),lo ≤ w.heap.size → Rd w lo a f.sub → f.sub.length ≤ 9223372036854775807 → cF f ≤ 1000000 → SizeOf.sizeOf f < n → Calls Tryz.prog 76 #[fldV f a c] w (Rets w (Is (i64 (cF f))))
structure CnI (w0 : World) (b1 : Nat) (f : Fld) (a : Option Addr) (c : Nat) (i : Nat) (wb : World) (e : Env) (ds : List Deferred) (L : Own) : Prop where
  hw : wb = w0
  hds : ds = []
  il : i ≤ f.sub.length
  h3 : e 3 = i64 ((1 + cL (f.sub.take i) : Nat) : Int)
  h8 : e 8 = .slice a f.sub.length c
  h9 : e 9 = i64 f.sub.length
  h10 : e 10 = i64 i
  hL : L = [(b1,Obj.cells #[str f.nm,.bool f.nl,i64 f.k,i64 f.wd,i64 f.id,i64 f.ix,.slice a f.sub.length c] 37 (0,0))]
theorem cL_append : ∀ a b : List Fld,cL (a ++ b) = cL a + cL b
  | [],b => by rw [List.nil_append,cL]; omega
  | f :: a,b => by rw [List.cons_append,cL,cL,cL_append a b]; omega
theorem cL_take {l : List Fld} {i : Nat} {g : Fld} (h : l[i]? = some g) : cL (l.take (i + 1)) = cL (l.take i) + cF g := by
  rw [List.take_add_one,h,cL_append]
  simp only [Option.toList,cL]
  omega
theorem cL_take_le (l : List Fld) (i : Nat) : cL (l.take i) ≤ cL l := by
  have h := cL_append (l.take i) (l.drop i)
  rw [List.take_append_drop] at h
  omega
theorem count_step (n : Nat) (ih : CntOK n) : CntOK (n + 1) := by
  intro w lo f a c hlo hr hl hc hsz
  refine enterT (args := [fldV f a c]) Tryz.func76 rfl Tryz.ntmps76 (congrArg Array.toList Tryz.results76) (by kernel_rfl) (by simp) (Sy.refl w) ?_
  simp (disch:=omega) only[push_cast,Nat.reduceEqDiff,fldV]
  refine newI (fun b1 hb1 hn1 => ?_)
  simp (disch:=omega) only[push_cast,Nat.reduceEqDiff]
  have hL1 : ∀ b ∈ [(b1,Obj.cells #[str f.nm,.bool f.nl,i64 f.k,i64 f.wd,i64 f.id,i64 f.ix,.slice a f.sub.length c] 37 (0,0))],w.heap.size ≤ b.1 := fun b hb => by rw [List.mem_singleton.1 hb]; exact hb1
  refine ldOne Shp.eq mem0 rfl ?_
  simp (disch:=omega) only[push_cast,Nat.reduceEqDiff]
  rw [V_block]
  simp (disch:=omega) only[push_cast,Nat.reduceEqDiff]
  refine loopW (G := Nat) (CnI w b1 f a c) (fun i => f.sub.length - i) 0 _ (fun w hw => hw) (by kernel_rfl) ⟨rfl,rfl,Nat.zero_le _,by simp [cL,upd],rfl,rfl,rfl,rfl⟩ ?_
  rintro i wb e ds L ⟨rfl,rfl,hil,h3,h8,h9,h10,rfl⟩
  rw [cF_eq] at hc
  simp (disch:=omega) only[push_cast,Nat.reduceEqDiff,h3,h8,h9,h10]
  rw [V_cond]
  simp (disch:=omega) only[push_cast,Nat.reduceEqDiff,h3,h8,h9,h10]
  refine condX_d (fun hlt => ?_) (fun hge => ?_)
  · obtain ⟨g,hg⟩ : ∃ g,f.sub[i]? = some g := ⟨_,List.getElem?_eq_getElem (by omega)⟩
    obtain ⟨b,off,rfl,hb⟩ : ∃ b off,a = some ⟨b,off,none⟩ ∧ b < lo := by
      obtain ⟨f0,l0,h0⟩ : ∃ f' l',f.sub = f' :: l' := List.exists_cons_of_ne_nil (by intro h; rw [h] at hg; simp at hg)
      rw [h0] at hr
      exact hr.some_of
    obtain ⟨fa,fc,x1,x2,x3,x4,x5,x6⟩ := hr.get i hg
    have hct := cL_take hg
    have hcl := cL_take_le f.sub (i + 1)
    have hsz2 : SizeOf.sizeOf g < n := by
      have h1 := List.sizeOf_lt_of_mem (List.mem_of_getElem? hg)
      have h2 : SizeOf.sizeOf f.sub < SizeOf.sizeOf f := by cases f; simp only [Fld.sub,Fld.mk.sizeOf_spec]; omega
      omega
    simp (disch:=omega) only[push_cast,Nat.reduceEqDiff,h3,h8,h9,h10]
    rw [V_block]
    simp (disch:=omega) only[push_cast,Nat.reduceEqDiff,h3,h8,h9,h10]
    refine ldAggF Shp.eq x2 rfl (out_of (fun p hp => Nat.lt_of_lt_of_le (Nat.lt_of_lt_of_le hb hlo) (hL1 p hp))) ?_
    simp (disch:=omega) only[push_cast,Nat.reduceEqDiff,h3,h8,h9,h10,Fld.cells]
    refine newI (fun b5 hb5 hn5 => ?_)
    simp (disch:=omega) only[push_cast,Nat.reduceEqDiff,h3,h8,h9,h10]
    refine storeX 0 rfl Siz.eq rfl rfl (by simp [Value.oneCell']) (by simp) ?_
    simp (disch:=omega) only[push_cast,Nat.reduceEqDiff,h3,h8,h9,h10]
    refine loadX_agg Shp.eq mem0 rfl rfl ?_
    simp (disch:=omega) only[push_cast,Nat.reduceEqDiff,h3,h8,h9,h10]
    have hL5 : ∀ p ∈ [(b5,Obj.cells #[str g.nm,.bool g.nl,i64 g.k,i64 g.wd,i64 g.id,i64 g.ix,.slice fa g.sub.length fc] 37 (0,0)),(b1,Obj.cells #[str f.nm,.bool f.nl,i64 f.k,i64 f.wd,i64 f.id,i64 f.ix,.slice (some ⟨b,off,none⟩) f.sub.length c] 37 (0,0))],wb.heap.size ≤ p.1 := fun p hp => by
      rcases List.mem_cons.1 hp with rfl | hp
      · exact hb5
      · exact hL1 p hp
    refine callV en_76 (callX_is (fun w' hw' => ih w' lo g fa fc (Nat.le_trans hlo hw'.size) (x6.sy hlo hw' (fun p hp => Nat.le_trans hlo (hL5 p hp))) (Nat.le_trans x3 x5) (by omega) hsz2) ?_)
    simp (disch:=omega) only[push_cast,Nat.reduceEqDiff,h3,h8,h9,h10]
    refine ⟨i + 1,_,fun w' hw' => Sy.left (A := [_]) hw' (fun p hp => by rw [List.mem_singleton.1 hp]; exact hb5),⟨rfl,rfl,by omega,?_,h8,h9,by simp only [upd]; rfl,rfl⟩,by omega⟩
    simp only [upd]
    show i64 _ = i64 _
    congr 1
    omega
  · obtain rfl : i = f.sub.length := by omega
    simp (disch:=omega) only[push_cast,Nat.reduceEqDiff,h3,h8,h9,h10]
    refine finIs hL1 ?_
    rw [cF_eq,List.take_length]
    rfl
theorem count_walk0 : ∀ n,CntOK n
  | 0 => fun w lo f a c _ _ _ _ h => by omega
  | n + 1 => count_step n (count_walk0 n)
theorem like_back : ∀ {l : List Fld} {k : List Sp} {n : Nat} {s : Sp},LikeL l k → k[n]? = some s → ∃ f,l[n]? = some f ∧ Like f s
  | [],[],n,s,h,hs => by simp at hs
  | [],x :: k,n,s,h,hs => by rw [LikeL] at h; exact h.elim
  | g :: l,[],n,s,h,hs => by simp at hs
  | g :: l,x :: k,0,s,h,hs => by
    rw [LikeL] at h
    simp only [List.getElem?_cons_zero,Option.some.injEq] at hs
    subst hs
    exact ⟨g,rfl,h.1⟩
  | g :: l,x :: k,n + 1,s,h,hs => by
    rw [LikeL] at h
    simp only [List.getElem?_cons_succ] at hs ⊢
    exact like_back h.2 hs
theorem cF_le {l : List Fld} {n : Nat} {f : Fld} (h : l[n]? = some f) : cL (l.take n) + cF f ≤ cL l := by
  rw [← cL_take h]
  exact cL_take_le l (n + 1)
structure PlI (w0 : World) (lo : Nat) (l0 : List Fld) (nv : Value) (pa : Option Addr) (path : List Nat) (pc : Nat) (L0 : Own) (i : Nat) (wb : World) (e : Env) (ds : List Deferred) (L : Own) : Prop where
  hw : wb = w0
  hds : ds = []
  il : i ≤ path.length
  h1 : e 1 = nv
  h2 : e 2 = .slice pa path.length pc
  h15 : e 15 = .slice pa path.length pc
  h16 : e 16 = i64 path.length
  h17 : e 17 = i64 i
  o : ∃ (l : List Fld) (a : Option Addr) (c : Nat) (sp : List Sp) (k : Nat),e 8 = .slice a l.length c ∧ Rd w0 lo a l ∧ l.length ≤ c ∧ c ≤ 9223372036854775807 ∧ e 7 = i64 k ∧ LikeL l sp ∧ okW sp (path.drop i) ∧ k + placeK l (path.drop i) = placeK l0 path ∧ cL l ≤ 100000 ∧ k ≤ 100000 * i
  hL : L = L0
structure PlJ (w0 : World) (l : List Fld) (a : Option Addr) (c n k i : Nat) (nv : Value) (pa : Option Addr) (path : List Nat) (pc : Nat) (L0 : Own) (j : Nat) (wb : World) (e : Env) (ds : List Deferred) (L : Own) : Prop where
  hw : wb = w0
  hds : ds = []
  jl : j ≤ n
  h1 : e 1 = nv
  h2 : e 2 = .slice pa path.length pc
  h15 : e 15 = .slice pa path.length pc
  h16 : e 16 = i64 path.length
  h17 : e 17 = i64 i
  h8 : e 8 = .slice a l.length c
  h9 : e 9 = i64 i
  h10 : e 10 = i64 n
  h24 : e 24 = .slice a n c
  h25 : e 25 = i64 n
  h26 : e 26 = i64 j
  h7 : e 7 = i64 ((k + cL (l.take j) : Nat) : Int)
  hL : L = L0
theorem place_walk (w : World) (lo : Nat) (hlo : lo ≤ w.heap.size) (l : List Fld) (a : Option Addr) (c : Nat) (ya : Option Addr) (yn yc : Nat) (N : List Nat) (an : Option Addr) (cn : Nat) (pa : Option Addr) (path : List Nat) (pc : Nat) (sp : List Sp) (hr : Rd w lo a l) (hc : l.length ≤ c) (hc2 : c ≤ 9223372036854775807) (hN : NatsAt w an N) (hN2 : N = preL sp) (hp : NatsAt w pa path) (hpl : path.length ≤ 1000000) (hlk : LikeL l sp) (hok : okW sp path) (hne : path ≠ []) (hcl : cL l ≤ 100000) :
    Calls Tryz.prog 46 #[.agg #[.slice a l.length c,.slice ya yn yc],.slice an N.length cn,.slice pa path.length pc] w (Rets w (Is (i64 (foundP sp path 0)))) := by
  have hfin := place_found path l sp 0 hlk hok hne
  refine enterT (args := [.agg #[.slice a l.length c,.slice ya yn yc],.slice an N.length cn,.slice pa path.length pc]) Tryz.func46 rfl Tryz.ntmps46 (congrArg Array.toList Tryz.results46) (by kernel_rfl) (by simp) (Sy.refl w) ?_
  simp (disch:=omega) only[push_cast,Nat.reduceEqDiff]
  refine newI (fun b3 hb3 hn3 => ?_)
  simp (disch:=omega) only[push_cast,Nat.reduceEqDiff]
  have hL3 : ∀ b ∈ [(b3,Obj.cells #[.slice a l.length c,.slice ya yn yc] 27 (0,0))],w.heap.size ≤ b.1 := fun b hb => by rw [List.mem_singleton.1 hb]; exact hb3
  refine ldOne Shp.eq mem0 rfl ?_
  simp (disch:=omega) only[push_cast,Nat.reduceEqDiff]
  rw [V_block]
  simp (disch:=omega) only[push_cast,Nat.reduceEqDiff]
  refine loopW (G := Nat) (PlI w lo l (.slice an N.length cn) pa path pc [(b3,Obj.cells #[.slice a l.length c,.slice ya yn yc] 27 (0,0))]) (fun i => path.length - i) 0 _ (fun w hw => hw) (by kernel_rfl) ⟨rfl,rfl,Nat.zero_le _,rfl,rfl,rfl,rfl,rfl,⟨l,a,c,sp,0,rfl,hr,hc,hc2,rfl,hlk,hok,by simp,hcl,by omega⟩,rfl⟩ ?_
  clear hr hc hc2 hlk hok hcl
  rintro i wb e ds L ⟨rfl,rfl,hil,h1,h2,h15,h16,h17,⟨l',a',c',sp',k,h8,hr,hc,hc2,h7,hlk,hok,hk,hcl,hkl⟩,rfl⟩
  simp (disch:=omega) only[push_cast,Nat.reduceEqDiff,h1,h2,h7,h8,h15,h16,h17]
  rw [V_cond]
  simp (disch:=omega) only[push_cast,Nat.reduceEqDiff,h1,h2,h7,h8,h15,h16,h17]
  refine condX_d (fun hlt => ?_) (fun hge => ?_)
  rotate_left
  · obtain rfl : i = path.length := by omega
    rw [List.drop_length,placeK,Nat.add_zero] at hk
    rw [← hk,← hN2] at hfin
    have hkN := (List.getElem?_eq_some_iff.1 hfin).1
    rcases hN with h0 | ⟨nb,noff,rfl,hNa⟩
    · rw [h0] at hkN; exact absurd hkN (by simp)
    have hat := hNa k _ hfin
    simp (disch:=omega) only[push_cast,Nat.reduceEqDiff,h1,h2,h7,h8,h15,h16,h17]
    refine ldF Shp.eq (by simpa using hat) (out_of (fun p hp => Nat.lt_of_lt_of_le hat.lt (hL3 p hp))) ?_
    simp (disch:=omega) only[push_cast,Nat.reduceEqDiff,h1,h2,h7,h8,h15,h16,h17]
    exact finIs hL3 rfl
  have hlt' : i < path.length := by omega
  obtain ⟨n,hn⟩ : ∃ n,path[i]? = some n := ⟨_,List.getElem?_eq_getElem hlt'⟩
  have hd : path.drop i = n :: path.drop (i + 1) := by
    rw [List.drop_eq_getElem_cons hlt']
    rw [List.getElem?_eq_getElem hlt'] at hn
    cases hn
    rfl
  rw [hd] at hok hk
  obtain ⟨x,hx,hok2⟩ := hok
  obtain ⟨f,hf,hfx⟩ := like_back hlk hx
  have hnl : n < l'.length := (List.getElem?_eq_some_iff.1 hf).1
  have hcf := cF_le hf
  obtain ⟨b,off,rfl,hb⟩ : ∃ b off,a' = some ⟨b,off,none⟩ ∧ b < lo := by
    obtain ⟨f0,l0,h0⟩ : ∃ f' l2,l' = f' :: l2 := List.exists_cons_of_ne_nil (by intro h; rw [h] at hf; simp at hf)
    rw [h0] at hr
    exact hr.some_of
  rcases hp with h0 | ⟨pb,poff,rfl,hpa⟩
  · exact absurd h0 hne
  have hpn := hpa i n hn
  simp (disch:=omega) only[push_cast,Nat.reduceEqDiff,h1,h2,h7,h8,h15,h16,h17]
  rw [V_block]
  simp (disch:=omega) only[push_cast,Nat.reduceEqDiff,h1,h2,h7,h8,h15,h16,h17]
  refine ldF Shp.eq (by simpa using hpn) (out_of (fun p hp => Nat.lt_of_lt_of_le hpn.lt (hL3 p hp))) ?_
  simp (disch:=omega) only[push_cast,Nat.reduceEqDiff,h1,h2,h7,h8,h15,h16,h17]
  rw [V_block]
  simp (disch:=omega) only[push_cast,Nat.reduceEqDiff,h1,h2,h7,h8,h15,h16,h17]
  refine loopW (G := Nat) (PlJ wb l' (some ⟨b,off,none⟩) c' n k i (.slice an N.length cn) (some ⟨pb,poff,none⟩) path pc [(b3,Obj.cells #[.slice a l.length c,.slice ya yn yc] 27 (0,0))]) (fun j => n - j) 0 _ (fun w hw => hw) (by kernel_rfl) ⟨rfl,rfl,Nat.zero_le _,h1,h2,h15,h16,h17,by simpa [upd] using h8,by simp only [upd]; rfl,by simp only [upd]; rfl,by simp only [upd]; rfl,by simp only [upd]; rfl,by simp only [upd]; rfl,by simpa [upd,cL] using h7,rfl⟩ ?_
  clear h1 h2 h7 h8 h15 h16 h17
  rintro j wb e ds L ⟨rfl,rfl,hjl,h1,h2,h15,h16,h17,h8,h9,h10,h24,h25,h26,h7,rfl⟩
  simp (disch:=omega) only[push_cast,Nat.reduceEqDiff,h1,h2,h7,h8,h9,h10,h15,h16,h17,h24,h25,h26]
  rw [V_cond]
  simp (disch:=omega) only[push_cast,Nat.reduceEqDiff,h1,h2,h7,h8,h9,h10,h15,h16,h17,h24,h25,h26]
  refine condX_d (fun hlt2 => ?_) (fun hge2 => ?_)
  · obtain ⟨g,hg⟩ : ∃ g,l'[j]? = some g := ⟨_,List.getElem?_eq_getElem (by omega)⟩
    obtain ⟨fa,fc,x1,x2,x3,x4,x5,x6⟩ := hr.get j hg
    have hct := cL_take hg
    have hcl2 := cL_take_le l' (j + 1)
    simp (disch:=omega) only[push_cast,Nat.reduceEqDiff,h1,h2,h7,h8,h9,h10,h15,h16,h17,h24,h25,h26]
    rw [V_block]
    simp (disch:=omega) only[push_cast,Nat.reduceEqDiff,h1,h2,h7,h8,h9,h10,h15,h16,h17,h24,h25,h26]
    refine ldAggF Shp.eq x2 rfl (out_of (fun p hp => Nat.lt_of_lt_of_le (Nat.lt_of_lt_of_le hb hlo) (hL3 p hp))) ?_
    simp (disch:=omega) only[push_cast,Nat.reduceEqDiff,h1,h2,h7,h8,h9,h10,h15,h16,h17,h24,h25,h26,Fld.cells]
    refine newI (fun b12 hb12 hn12 => ?_)
    simp (disch:=omega) only[push_cast,Nat.reduceEqDiff,h1,h2,h7,h8,h9,h10,h15,h16,h17,h24,h25,h26]
    refine storeX 0 rfl Siz.eq rfl rfl (by simp [Value.oneCell']) (by simp) ?_
    simp (disch:=omega) only[push_cast,Nat.reduceEqDiff,h1,h2,h7,h8,h9,h10,h15,h16,h17,h24,h25,h26]
    refine loadX_agg Shp.eq mem0 rfl rfl ?_
    simp (disch:=omega) only[push_cast,Nat.reduceEqDiff,h1,h2,h7,h8,h9,h10,h15,h16,h17,h24,h25,h26]
    have hL5 : ∀ p ∈ (b12,Obj.cells #[str g.nm,.bool g.nl,i64 g.k,i64 g.wd,i64 g.id,i64 g.ix,.slice fa g.sub.length fc] 37 (0,0)) :: [(b3,Obj.cells #[.slice a l.length c,.slice ya yn yc] 27 (0,0))],wb.heap.size ≤ p.1 := fun p hp => by
      rcases List.mem_cons.1 hp with rfl | hp
      · exact hb12
      · exact hL3 p hp
    refine callV en_76 (callX_is (fun w' hw' => count_walk0 _ w' lo g fa fc (Nat.le_trans hlo hw'.size) (x6.sy hlo hw' (fun p hp => Nat.le_trans hlo (hL5 p hp))) (Nat.le_trans x3 x5) (by omega) (Nat.lt_succ_self _)) ?_)
    simp (disch:=omega) only[push_cast,Nat.reduceEqDiff,h1,h2,h7,h8,h9,h10,h15,h16,h17,h24,h25,h26]
    refine ⟨j + 1,_,fun w' hw' => Sy.left (A := [_]) hw' (fun p hp => by rw [List.mem_singleton.1 hp]; exact hb12),⟨rfl,rfl,by omega,h1,h2,h15,h16,h17,h8,h9,h10,h24,h25,by simp only [upd]; rfl,?_,rfl⟩,by omega⟩
    simp only [upd]
    show i64 _ = i64 _
    congr 1
    omega
  · obtain rfl : j = n := by omega
    obtain ⟨fa,fc,x1,x2,x3,x4,x5,x6⟩ := hr.get j hf
    have hlast := x2.sub 6 [.slice fa f.sub.length fc] rfl
    have hlk2 := (Like_iff _ _).1 hfx
    have hcf1 : 1 ≤ cF f := by rw [cF_eq]; omega
    have hcs : cL f.sub ≤ 100000 := by rw [cF_eq] at hcf; omega
    simp (disch:=omega) only[push_cast,Nat.reduceEqDiff,h1,h2,h7,h8,h9,h10,h15,h16,h17]
    rw [V_cond]
    simp (disch:=omega) only[push_cast,Nat.reduceEqDiff,h1,h2,h7,h8,h9,h10,h15,h16,h17]
    refine condX_d (fun hm => ?_) (fun hm => ?_)
    · obtain ⟨m,p2,hp2⟩ : ∃ m p2,path.drop (i + 1) = m :: p2 := List.exists_cons_of_ne_nil (by
        intro h
        have := congrArg List.length h
        rw [List.length_drop,List.length_nil] at this
        omega)
      rw [hp2,placeK,hf] at hk
      simp only [Option.map_some,Option.getD_some] at hk
      simp (disch:=omega) only[push_cast,Nat.reduceEqDiff,h1,h2,h7,h8,h9,h10,h15,h16,h17]
      refine ldF Shp.eq (by simpa [Nat.add_assoc] using hlast) (out_of (fun p hp => Nat.lt_of_lt_of_le (Nat.lt_of_lt_of_le hb hlo) (hL3 p hp))) ?_
      simp (disch:=omega) only[push_cast,Nat.reduceEqDiff,h1,h2,h7,h8,h9,h10,h15,h16,h17]
      refine ⟨i + 1,_,fun w hw => hw,⟨rfl,rfl,by omega,h1,h2,h15,h16,by simp only [upd]; rfl,⟨f.sub,fa,fc,x.kids,k + cL (l'.take j) + 1,by simp only [upd]; rfl,x6,x3,x5,?_,hlk2,hok2,by rw [hp2]; omega,hcs,by omega⟩,rfl⟩,by omega⟩
      simp only [upd]
      show i64 _ = i64 _
      congr 1
    · have hp2 : path.drop (i + 1) = [] := List.drop_of_length_le (by omega)
      rw [hp2,placeK] at hk
      simp (disch:=omega) only[push_cast,Nat.reduceEqDiff,h1,h2,h7,h8,h9,h10,h15,h16,h17]
      refine ldF Shp.eq (by simpa [Nat.add_assoc] using hlast) (out_of (fun p hp => Nat.lt_of_lt_of_le (Nat.lt_of_lt_of_le hb hlo) (hL3 p hp))) ?_
      simp (disch:=omega) only[push_cast,Nat.reduceEqDiff,h1,h2,h7,h8,h9,h10,h15,h16,h17]
      refine ⟨i + 1,_,fun w hw => hw,⟨rfl,rfl,by omega,h1,h2,h15,h16,by simp only [upd]; rfl,⟨f.sub,fa,fc,x.kids,k + cL (l'.take j),by simp only [upd]; rfl,x6,x3,x5,by simpa [upd] using h7,hlk2,hok2,by rw [hp2,placeK]; omega,hcs,by omega⟩,rfl⟩,by omega⟩
end Go.Proofs.YtdmdgkpjjpijdaaGreatDoor
