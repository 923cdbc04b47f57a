/- YtdmdgkpjjpijdaaGreatDoor: walks, part 22: the reference's list of the fields of a tree. -/
import Derived.Test.YtdmdgkpjjpijdaaGreatDoorW8
import Derived.Test.YtdmdgkpjjpijdaaGreatDoorKo
import Derived.Test.YtdmdgkpjjpijdaaGreatDoorKs
namespace Go.Proofs.YtdmdgkpjjpijdaaGreatDoor
open Go Go.K
set_option maxRecDepth 100000
set_option linter.unusedVariables false
set_option linter.unusedSimpArgs false
set_option maxHeartbeats 4000000
def NodeC (wb : World) (lo : Nat) (W : Own) (x : FNode) (cs : List Value) : Prop := ∃ (pb : Nat) (fa aa : Option Addr) (fc ac : Nat),
  cs = [.slice (some ⟨pb,0,none⟩) x.path.length x.path.length,str x.f.nm,.bool x.f.nl,i64 x.f.k,i64 x.f.wd,i64 x.f.id,i64 x.f.ix,.slice fa x.f.sub.length fc,.slice aa x.ah.length ac,.bool x.ind] ∧
  (pb,.cells (ints x.path).toArray 3 (0,0)) ∈ W ∧ wb.heap.size ≤ pb ∧ x.path.length ≤ 65 ∧ Rd wb lo fa x.f.sub ∧ x.f.sub.length ≤ fc ∧ fc ≤ 9223372036854775807 ∧ x.f.nm.length ≤ 9223372036854775807 ∧ Rd wb lo aa x.ah ∧ x.ah.length ≤ ac ∧ ac ≤ 9223372036854775807
def NodesC (wb : World) (lo : Nat) (W : Own) : List FNode → List Value → Prop
  | [],xs => xs = []
  | x :: os,xs => ∃ c r,xs = c ++ r ∧ NodeC wb lo W x c ∧ NodesC wb lo W os r
theorem NodeC.len {wb : World} {lo : Nat} {W : Own} {x : FNode} {cs : List Value} (h : NodeC wb lo W x cs) : cs.length = 10 := by
  obtain ⟨pb,fa,aa,fc,ac,rfl,_⟩ := h; rfl
theorem NodeC.one {wb : World} {lo : Nat} {W : Own} {x : FNode} {cs : List Value} (h : NodeC wb lo W x cs) : ∀ u ∈ cs,u.oneCell' = true := by
  obtain ⟨pb,fa,aa,fc,ac,rfl,_⟩ := h
  simp [Value.oneCell']
theorem NodeC.mono {wb : World} {lo : Nat} {W W' : Own} {x : FNode} {cs : List Value} (h : NodeC wb lo W x cs) (hs : ∀ p,p ∈ W → p ∈ W') : NodeC wb lo W' x cs := by
  obtain ⟨pb,fa,aa,fc,ac,h1,h2,h3⟩ := h
  exact ⟨pb,fa,aa,fc,ac,h1,hs _ h2,h3⟩
theorem NodesC.mono {wb : World} {lo : Nat} {W W' : Own} (hs : ∀ p,p ∈ W → p ∈ W') : ∀ {os : List FNode} {xs : List Value},NodesC wb lo W os xs → NodesC wb lo W' os xs
  | [],_,h => h
  | x :: os,xs,⟨c,r,h1,h2,h3⟩ => ⟨c,r,h1,h2.mono hs,NodesC.mono hs h3⟩
theorem NodesC.snoc {wb : World} {lo : Nat} {W : Own} {x : FNode} {c : List Value} (hx : NodeC wb lo W x c) : ∀ {os : List FNode} {xs : List Value},NodesC wb lo W os xs → NodesC wb lo W (os ++ [x]) (xs ++ c)
  | [],_,h => by cases h; exact ⟨c,[],by simp,hx,rfl⟩
  | y :: os,xs,⟨c',r,h1,h2,h3⟩ => ⟨c',r ++ c,by rw [h1,List.append_assoc],h2,NodesC.snoc hx h3⟩
theorem NodesC.get {wb : World} {lo : Nat} {W : Own} {x : FNode} : ∀ {os : List FNode} {xs : List Value} (i : Nat),NodesC wb lo W os xs → os[i]? = some x → ∃ c,NodeC wb lo W x c ∧ (xs.drop (i * 10)).take 10 = c
  | [],_,i,_,h => by simp at h
  | y :: os,xs,0,⟨c,r,h1,h2,h3⟩,h => by
    simp only [List.getElem?_cons_zero,Option.some.injEq] at h
    subst h
    refine ⟨c,h2,?_⟩
    have := h2.len
    rw [h1,Nat.zero_mul,List.drop_zero,← this,List.take_left]
  | y :: os,xs,i + 1,⟨c,r,h1,h2,h3⟩,h => by
    obtain ⟨c',h4,h5⟩ := NodesC.get i h3 (by simpa using h)
    refine ⟨c',h4,?_⟩
    have := h2.len
    rw [h1,show (i + 1) * 10 = c.length + i * 10 by omega,← List.drop_drop,List.drop_left]
    exact h5
theorem infoNode : (Tryz.prog.info? 119).map (fun i => (i.zero,i.size,i.bytes)) = some (some (.agg #[.slice none 0 0,str [],.bool false,i64 0,i64 0,i64 0,i64 0,.slice none 0 0,.slice none 0 0,.bool false]),10,136) := by kernel_rfl
def GrowOK (d : Nat) : Prop := ∀ (wb w : World) (L A M : Own) (lo : Nat) (v : Value) (os : List FNode) (xs : List Value) (path : List Nat) (pv : Value) (l : List Fld) (a : Option Addr) (c : Nat) (ind : Bool),
  Sy wb L w → lo ≤ wb.heap.size → (∀ p ∈ A ++ M,wb.heap.size ≤ p.1) → RowO wb 119 10 L (A ++ M) v os.length xs → NodesC wb lo A os xs → os.length ≤ 257 → RowIn A 3 pv path.length (ints path) → path.length + d + 1 = 65 →
  Rd wb lo a l → l.length ≤ c → c ≤ 9223372036854775807 →
  Calls Tryz.prog 64 #[.slice a l.length c,pv,.bool ind,v] w (fun e w' => ∃ v' L',e = .returned v' ∧ Sy wb L' w' ∧ ∃ A' xs',RowO wb 119 10 L' (A' ++ M) v' ((os ++ nd (d + 1) path ind l).take 257).length xs' ∧ NodesC wb lo A' ((os ++ nd (d + 1) path ind l).take 257) xs' ∧ (∀ p ∈ A',wb.heap.size ≤ p.1) ∧ ∀ p ∈ A,p ∈ A')
structure GrowI (w0 : World) (A0 M : Own) (lo : Nat) (os : List FNode) (path : List Nat) (pv : Value) (ind : Bool) (l : List Fld) (a : Option Addr) (c d : Nat) (i : Nat) (wb : World) (e : Env) (ds : List Deferred) (L : Own) : Prop where
  hw : wb = w0
  hds : ds = []
  o : ∃ A xs,RowO w0 119 10 L (A ++ M) (e 3) ((os ++ ndAt d path ind l i).take 257).length xs ∧ NodesC w0 lo A ((os ++ ndAt d path ind l i).take 257) xs ∧ (∀ p ∈ A,w0.heap.size ≤ p.1) ∧ ∀ p ∈ A0,p ∈ A
  il : i ≤ l.length
  h0 : e 0 = .slice a l.length c
  h1 : e 1 = pv
  h2 : e 2 = .bool ind
  h12 : e 12 = .slice a l.length c
  h13 : e 13 = i64 l.length
  h14 : e 14 = i64 i
theorem grow_step (d : Nat) (ih : ∀ d',d = d' + 1 → GrowOK d') : GrowOK d := by
  intro wb w L A M lo v os xs path pv l a c ind hw hlo hAM hro hno hos hpv hd hr hc hc2
  refine enterB (args := [.slice a l.length c,pv,.bool ind,v]) Tryz.func64 rfl Tryz.ntmps64 (congrArg Array.toList Tryz.results64) (by kernel_rfl) (by simp) hw ?_
  simp (disch:=omega) only[push_cast,Nat.reduceEqDiff]
  repeat' (first | ((first | refine guardX_t rfl (fun h => ?_) (fun h => ?_) | refine guardX_f rfl (fun h => ?_) (fun h => ?_) | refine condX_d (fun h => ?_) (fun h => ?_) | (refine guardX_bt rfl (fun h => ?_) (fun h => ?_) <;> (try subst h)) | (refine guardX_bf rfl (fun h => ?_) (fun h => ?_) <;> (try subst h)) | (refine condX_b (fun h => ?_) (fun h => ?_) <;> (try subst h)) | refine ldOne Shp.eq (by (first | exact mem0 | exact mem1 | exact mem2 | exact mem3)) rfl ?_ | refine loadX_agg Shp.eq (by (first | exact mem0 | exact mem1 | exact mem2 | exact mem3)) rfl rfl ?_ | refine newI (fun b hb hn => ?_) | refine storeX 0 rfl Siz.eq rfl rfl (by simp [Value.oneCell']) (by simp) ?_ | refine storeX 1 rfl Siz.eq rfl rfl (by simp [Value.oneCell']) (by simp) ?_ | refine storeX 2 rfl Siz.eq rfl rfl (by simp [Value.oneCell']) (by simp) ?_ | refine storeX 3 rfl Siz.eq rfl rfl (by simp [Value.oneCell']) (by simp) ?_) <;> simp (disch:=omega) only[push_cast,Nat.reduceEqDiff]))
  rw [V_block]
  simp (disch:=omega) only[push_cast,Nat.reduceEqDiff]
  have h00 : (os ++ ndAt d path ind l 0).take 257 = os := by rw [ndAt_zero,List.append_nil,List.take_of_length_le hos]
  refine loopW (G := Nat) (GrowI wb A M lo os path pv ind l a c d) (fun i => l.length - i) 0 L (fun w hw => hw) (by kernel_rfl) ⟨rfl,rfl,⟨A,xs,by rw [h00]; exact hro,by rw [h00]; exact hno,fun p hp => hAM p (List.mem_append_left _ hp),fun p hp => hp⟩,by omega,rfl,rfl,rfl,rfl,rfl,rfl⟩ ?_
  have hM : ∀ p ∈ M,wb.heap.size ≤ p.1 := fun p hp => hAM p (List.mem_append_right _ hp)
  clear hw hro hno h00 hAM
  rintro i wb e ds L ⟨rfl,rfl,⟨A1,xs1,hro,hno,hA1,hAA⟩,hil,h0,h1,h2,h12,h13,h14⟩
  obtain ⟨v0,h3⟩ : ∃ v0,e 3 = v0 := ⟨_,rfl⟩
  rw [h3] at hro
  obtain ⟨va,vc,rfl⟩ := hro.is_slice
  obtain ⟨pa,pc,rfl⟩ := hpv.is_slice
  have hAM : ∀ p ∈ A1 ++ M,wb.heap.size ≤ p.1 := fun p hp => by
    rcases List.mem_append.1 hp with hp | hp
    · exact hA1 p hp
    · exact hM p hp
  simp (disch:=omega) only[push_cast,Nat.reduceEqDiff,h0,h1,h2,h3,h12,h13,h14]
  rw [V_cond]
  simp (disch:=omega) only[push_cast,Nat.reduceEqDiff,h0,h1,h2,h3,h12,h13,h14]
  refine condX_d (fun hlt => ?_) (fun hge => ?_)
  · obtain ⟨f,hf⟩ : ∃ f,l[i]? = some f := ⟨_,List.getElem?_eq_getElem (by omega)⟩
    obtain ⟨b,off,rfl,hb⟩ : ∃ b off,a = some ⟨b,off,none⟩ ∧ b < lo := by
      obtain ⟨f0,l0,rfl⟩ : ∃ f l',l = f :: l' := List.exists_cons_of_ne_nil (by rintro rfl; simp at hf)
      exact hr.some_of
    obtain ⟨fa,fc,x1,x2,x3,x4,x5,x6⟩ := hr.get i hf
    simp (disch:=omega) only[push_cast,Nat.reduceEqDiff,h0,h1,h2,h3,h12,h13,h14]
    rw [V_block]
    simp (disch:=omega) only[push_cast,Nat.reduceEqDiff,h0,h1,h2,h3,h12,h13,h14]
    refine ldAggF sh_37 x2 rfl (out_of (fun p hp => Nat.lt_of_lt_of_le (Nat.lt_of_lt_of_le x1 hlo) (hro.new hAM p hp))) ?_
    simp (disch:=omega) only[push_cast,Nat.reduceEqDiff,h0,h1,h2,h3,h12,h13,h14,Fld.cells]
    refine newI (fun bf hbf hnf => ?_)
    simp (disch:=omega) only[push_cast,Nat.reduceEqDiff,h0,h1,h2,h3,h12,h13,h14]
    repeat' (first | ((first | refine guardX_t rfl (fun h => ?_) (fun h => ?_) | refine guardX_f rfl (fun h => ?_) (fun h => ?_) | refine condX_d (fun h => ?_) (fun h => ?_) | (refine guardX_bt rfl (fun h => ?_) (fun h => ?_) <;> (try subst h)) | (refine guardX_bf rfl (fun h => ?_) (fun h => ?_) <;> (try subst h)) | (refine condX_b (fun h => ?_) (fun h => ?_) <;> (try subst h)) | refine ldOne Shp.eq (by (first | exact mem0 | exact mem1 | exact mem2 | exact mem3)) rfl ?_ | refine loadX_agg Shp.eq (by (first | exact mem0 | exact mem1 | exact mem2 | exact mem3)) rfl rfl ?_ | refine newI (fun b hb hn => ?_) | refine storeX 0 rfl Siz.eq rfl rfl (by simp [Value.oneCell']) (by simp) ?_ | refine storeX 1 rfl Siz.eq rfl rfl (by simp [Value.oneCell']) (by simp) ?_ | refine storeX 2 rfl Siz.eq rfl rfl (by simp [Value.oneCell']) (by simp) ?_ | refine storeX 3 rfl Siz.eq rfl rfl (by simp [Value.oneCell']) (by simp) ?_) <;> simp (disch:=omega) only[push_cast,Nat.reduceEqDiff,h0,h1,h2,h3,h12,h13,h14]))
    rw [V_cond]
    simp (disch:=omega) only[push_cast,Nat.reduceEqDiff,h0,h1,h2,h3,h12,h13,h14]
    refine condX_d (fun hfull => ?_) (fun hroom => ?_)
    · simp (disch:=omega) only[push_cast,Nat.reduceEqDiff,h0,h1,h2,h3,h12,h13,h14]
      have hpre := nd_prefix d path ind l i
      obtain ⟨tl,htl⟩ := hpre
      have hsame : (os ++ nd (d + 1) path ind l).take 257 = (os ++ ndAt d path ind l i).take 257 := by
        rw [← htl,← List.append_assoc]
        refine List.take_append_of_le_length ?_
        have := List.length_take_le 257 (os ++ ndAt d path ind l i)
        rw [List.length_take] at hfull
        omega
      rw [hsame]
      exact fun w' hw' => ⟨_,L,rfl,hw'.mid [] [_] (fun p hp => by rw [List.mem_singleton.1 hp]; exact hbf),A1,xs1,hro,hno,hA1,hAA⟩
    · rw [List.length_take] at hroom
      have hosl : (os ++ ndAt d path ind l i).length ≤ 256 := by omega
      have hosi : (os ++ ndAt d path ind l i).take 257 = os ++ ndAt d path ind l i := List.take_of_length_le (by omega)
      rw [hosi] at hro hno h3
      simp (disch:=omega) only[push_cast,Nat.reduceEqDiff,h0,h1,h2,h3,h12,h13,h14]
      rw [show ((path.length : Int) + 1) = ((path.length + 1 : Nat) : Int) from rfl]
      refine makeX .i64 .i64 un_49 infoInt rfl (by omega) (by omega) (newI fun bw hbw hnw => ?_)
      simp (disch:=omega) only[push_cast,Nat.reduceEqDiff,h0,h1,h2,h3,h12,h13,h14]
      have hrep : ints path ++ (List.replicate (path.length + 1) (Value.int .i64 0)).drop path.length = ints path ++ [.int .i64 0] := by
        rw [List.drop_replicate,Nat.add_sub_cancel_left]; rfl
      refine copyX un_49 sz_3 (n := path.length) (xs := ints path) (by omega) (by simp) (hpv.mono fun p hp => .tail _ (hro.mem (List.mem_append_left _ (hAA p hp)))) (ints_one path) (fun u => ?_)
      rw [hrep]
      simp (disch:=omega) only[push_cast,Nat.reduceEqDiff,h0,h1,h2,h3,h12,h13,h14]
      refine storeX 0 rfl (by exact sz_3) rfl rfl (by simp [Value.oneCell']) (by simp [ints]) ?_
      have hspl : splice (ints path ++ [Value.int .i64 0]) (path.length * 1) [i64 i] = ints (path ++ [i]) := by
        have : (ints path).length = path.length := by simp [ints]
        simp only [splice,Nat.mul_one,List.length_cons,List.length_nil]
        rw [← this,List.take_left,List.drop_of_length_le (by simp)]
        simp [ints]
      rw [hspl]
      simp (disch:=omega) only[push_cast,Nat.reduceEqDiff,h0,h1,h2,h3,h12,h13,h14]
      have hnew2 : ∀ p ∈ ((bw,Obj.cells (ints (path ++ [i])).toArray 3 (0,0)) :: (bf,Obj.cells #[str f.nm,.bool f.nl,i64 f.k,i64 f.wd,i64 f.id,i64 f.ix,.slice fa f.sub.length fc] 37 (0,0)) :: L),wb.heap.size ≤ p.1 := fun p hp => by
        simp only [List.mem_cons] at hp
        rcases hp with rfl | rfl | hp
        · exact hbw
        · exact hbf
        · exact hro.new hAM p hp
      have hlen : (l.take i).length = i := by rw [List.length_take]; omega
      refine freeT [0,1,2,3,4,5,6,7] [8,9,10] [(bf,Obj.cells #[str f.nm,.bool f.nl,i64 f.k,i64 f.wd,i64 f.id,i64 f.ix,.slice fa f.sub.length fc] 37 (0,0))] (by kernel_rfl) mixed (by kernel_rfl) (Stab.of (.cons _ (.cons_cons _ (List.nil_sublist _))) hnew2) ?_
      simp (disch:=omega) only[push_cast,Nat.reduceEqDiff,h0,h1,h2,h3,h12,h13,h14]
      refine loadX_agg sh_37 (.head _) rfl rfl ?_
      simp (disch:=omega) only[push_cast,Nat.reduceEqDiff,h0,h1,h2,h3,h12,h13,h14]
      refine bs_115_1 (newI fun b8 hb8 hn8 => ?_)
      simp (disch:=omega) only[push_cast,Nat.reduceEqDiff,h0,h1,h2,h3,h12,h13,h14]
      have hnew3 : ∀ p ∈ ((b8,Obj.cells #[.slice (some ⟨bw,0,none⟩) (path.length + 1) (path.length + 1),str f.nm,.bool f.nl,i64 f.k,i64 f.wd,i64 f.id,i64 f.ix,.slice fa f.sub.length fc,.slice (some ⟨b,off,none⟩) i c,.bool ind] 119 (0,0)) :: (bw,Obj.cells (ints (path ++ [i])).toArray 3 (0,0)) :: (bf,Obj.cells #[str f.nm,.bool f.nl,i64 f.k,i64 f.wd,i64 f.id,i64 f.ix,.slice fa f.sub.length fc] 37 (0,0)) :: L),wb.heap.size ≤ p.1 := fun p hp => by
        rcases List.mem_cons.1 hp with rfl | hp
        · exact hb8
        · exact hnew2 p hp
      refine ⟨Stab.of (.cons _ (.cons _ (.cons_cons _ (List.nil_sublist _)))) hnew3,?_⟩
      obtain ⟨L4,hro4,hs4⟩ := hro.overs [(b8,Obj.cells #[.slice (some ⟨bw,0,none⟩) (path.length + 1) (path.length + 1),str f.nm,.bool f.nl,i64 f.k,i64 f.wd,i64 f.id,i64 f.ix,.slice fa f.sub.length fc,.slice (some ⟨b,off,none⟩) i c,.bool ind] 119 (0,0)),(bw,Obj.cells (ints (path ++ [i])).toArray 3 (0,0)),(bf,Obj.cells #[str f.nm,.bool f.nl,i64 f.k,i64 f.wd,i64 f.id,i64 f.ix,.slice fa f.sub.length fc] 37 (0,0))]
      have hA2 : ∀ p ∈ ([(b8,Obj.cells #[.slice (some ⟨bw,0,none⟩) (path.length + 1) (path.length + 1),str f.nm,.bool f.nl,i64 f.k,i64 f.wd,i64 f.id,i64 f.ix,.slice fa f.sub.length fc,.slice (some ⟨b,off,none⟩) i c,.bool ind] 119 (0,0)),(bw,Obj.cells (ints (path ++ [i])).toArray 3 (0,0)),(bf,Obj.cells #[str f.nm,.bool f.nl,i64 f.k,i64 f.wd,i64 f.id,i64 f.ix,.slice fa f.sub.length fc] 37 (0,0))] ++ (A1 ++ M)),wb.heap.size ≤ p.1 := fun p hp => by
        rcases List.mem_append.1 hp with hp | hp
        · simp only [List.mem_cons,List.mem_nil_iff,or_false] at hp
          rcases hp with rfl | rfl | rfl <;> assumption
        · exact hAM p hp
      have hx : NodeC wb lo ([(b8,Obj.cells #[.slice (some ⟨bw,0,none⟩) (path.length + 1) (path.length + 1),str f.nm,.bool f.nl,i64 f.k,i64 f.wd,i64 f.id,i64 f.ix,.slice fa f.sub.length fc,.slice (some ⟨b,off,none⟩) i c,.bool ind] 119 (0,0)),(bw,Obj.cells (ints (path ++ [i])).toArray 3 (0,0)),(bf,Obj.cells #[str f.nm,.bool f.nl,i64 f.k,i64 f.wd,i64 f.id,i64 f.ix,.slice fa f.sub.length fc] 37 (0,0))] ++ A1) ⟨path ++ [i],l.take i,f,ind⟩ [.slice (some ⟨bw,0,none⟩) (path.length + 1) (path.length + 1),str f.nm,.bool f.nl,i64 f.k,i64 f.wd,i64 f.id,i64 f.ix,.slice fa f.sub.length fc,.slice (some ⟨b,off,none⟩) i c,.bool ind] :=
        ⟨bw,fa,some ⟨b,off,none⟩,fc,c,by rw [show (path ++ [i]).length = path.length + 1 by simp,hlen],.tail _ (.head _),hbw,by simp; omega,x6,x3,x5,x4,hr.take i,by rw [hlen]; omega,hc2⟩
      have hno2 := NodesC.snoc hx (hno.mono fun p hp => List.mem_append_right [(b8,Obj.cells #[.slice (some ⟨bw,0,none⟩) (path.length + 1) (path.length + 1),str f.nm,.bool f.nl,i64 f.k,i64 f.wd,i64 f.id,i64 f.ix,.slice fa f.sub.length fc,.slice (some ⟨b,off,none⟩) i c,.bool ind] 119 (0,0)),(bw,Obj.cells (ints (path ++ [i])).toArray 3 (0,0)),(bf,Obj.cells #[str f.nm,.bool f.nl,i64 f.k,i64 f.wd,i64 f.id,i64 f.ix,.slice fa f.sub.length fc] 37 (0,0))] hp)
      refine valX_weak hs4 (appendI un_115 infoNode rfl hro4 (news := [.slice (some ⟨bw,0,none⟩) (path.length + 1) (path.length + 1),str f.nm,.bool f.nl,i64 f.k,i64 f.wd,i64 f.id,i64 f.ix,.slice fa f.sub.length fc,.slice (some ⟨b,off,none⟩) i c,.bool ind]) (m := 1) rfl (CanRead.of_own (n := 10) (hro4.mem (.head _)) rfl rfl) hx.one (by simp only [maxLen]; omega) (by omega) (fun v2 L5 hro5 _ => ?_))
      have hst5 : Stab wb L5 [(bf,Obj.cells #[str f.nm,.bool f.nl,i64 f.k,i64 f.wd,i64 f.id,i64 f.ix,.slice fa f.sub.length fc] 37 (0,0))] := Stab.of (List.singleton_sublist.2 (hro5.mem (.tail _ (.tail _ (.head _))))) (hro5.new hA2)
      simp (disch:=omega) only[push_cast,Nat.reduceEqDiff,h0,h1,h2,h3,h12,h13,h14]
      refine ⟨hst5,hst5,?_⟩
      have hA3 : ∀ p ∈ ([(b8,Obj.cells #[.slice (some ⟨bw,0,none⟩) (path.length + 1) (path.length + 1),str f.nm,.bool f.nl,i64 f.k,i64 f.wd,i64 f.id,i64 f.ix,.slice fa f.sub.length fc,.slice (some ⟨b,off,none⟩) i c,.bool ind] 119 (0,0)),(bw,Obj.cells (ints (path ++ [i])).toArray 3 (0,0)),(bf,Obj.cells #[str f.nm,.bool f.nl,i64 f.k,i64 f.wd,i64 f.id,i64 f.ix,.slice fa f.sub.length fc] 37 (0,0))] ++ A1) ++ M,wb.heap.size ≤ p.1 := fun p hp => hA2 p (by rw [List.append_assoc] at hp; exact hp)
      have hro6 : RowO wb 119 10 L5 (([(b8,Obj.cells #[.slice (some ⟨bw,0,none⟩) (path.length + 1) (path.length + 1),str f.nm,.bool f.nl,i64 f.k,i64 f.wd,i64 f.id,i64 f.ix,.slice fa f.sub.length fc,.slice (some ⟨b,off,none⟩) i c,.bool ind] 119 (0,0)),(bw,Obj.cells (ints (path ++ [i])).toArray 3 (0,0)),(bf,Obj.cells #[str f.nm,.bool f.nl,i64 f.k,i64 f.wd,i64 f.id,i64 f.ix,.slice fa f.sub.length fc] 37 (0,0))] ++ A1) ++ M) v2 (os ++ ndAt d path ind l i ++ [(⟨path ++ [i],l.take i,f,ind⟩ : FNode)]).length (xs1 ++ [.slice (some ⟨bw,0,none⟩) (path.length + 1) (path.length + 1),str f.nm,.bool f.nl,i64 f.k,i64 f.wd,i64 f.id,i64 f.ix,.slice fa f.sub.length fc,.slice (some ⟨b,off,none⟩) i c,.bool ind]) := by
        rw [List.append_assoc]
        exact hro5.cast (by simp only [List.length_append,List.length_cons,List.length_nil]) rfl
      have hway : RowIn ([(b8,Obj.cells #[.slice (some ⟨bw,0,none⟩) (path.length + 1) (path.length + 1),str f.nm,.bool f.nl,i64 f.k,i64 f.wd,i64 f.id,i64 f.ix,.slice fa f.sub.length fc,.slice (some ⟨b,off,none⟩) i c,.bool ind] 119 (0,0)),(bw,Obj.cells (ints (path ++ [i])).toArray 3 (0,0)),(bf,Obj.cells #[str f.nm,.bool f.nl,i64 f.k,i64 f.wd,i64 f.id,i64 f.ix,.slice fa f.sub.length fc] 37 (0,0))] ++ A1) 3 (.slice (some ⟨bw,0,none⟩) (path.length + 1) (path.length + 1)) (path ++ [i]).length (ints (path ++ [i])) :=
        ⟨by simp [ints],.inr ⟨bw,path.length + 1,ints (path ++ [i]),by simp,.tail _ (.head _),by simp,by simp only [maxLen]; omega,by simp [ints],List.take_of_length_le (by simp [ints])⟩⟩
      rw [V_cond]
      simp (disch:=omega) only[push_cast,Nat.reduceEqDiff,h0,h1,h2,h3,h12,h13,h14]
      refine condX_d (fun hle => ?_) (fun hgt => ?_)
      · obtain ⟨d',rfl⟩ : ∃ d',d = d' + 1 := ⟨d - 1,by omega⟩
        simp (disch:=omega) only[push_cast,Nat.reduceEqDiff,h0,h1,h2,h3,h12,h13,h14]
        refine ldOne sh_24 (hro5.mem (.tail _ (.tail _ (.head _)))) rfl ?_
        simp (disch:=omega) only[push_cast,Nat.reduceEqDiff,h0,h1,h2,h3,h12,h13,h14]
        rcases ind with _ | _
        · simp (disch:=omega) only[push_cast,Nat.reduceEqDiff,h0,h1,h2,h3,h12,h13,h14]
          refine ldOne sh_3 (hro5.mem (.tail _ (.tail _ (.head _)))) rfl ?_
          simp (disch:=omega) only[push_cast,Nat.reduceEqDiff,h0,h1,h2,h3,h12,h13,h14]
          refine callV en_64 (callX_own (fun w' hw' => ih d' rfl wb w' L5 ([(b8,Obj.cells #[.slice (some ⟨bw,0,none⟩) (path.length + 1) (path.length + 1),str f.nm,.bool f.nl,i64 f.k,i64 f.wd,i64 f.id,i64 f.ix,.slice fa f.sub.length fc,.slice (some ⟨b,off,none⟩) i c,.bool false] 119 (0,0)),(bw,Obj.cells (ints (path ++ [i])).toArray 3 (0,0)),(bf,Obj.cells #[str f.nm,.bool f.nl,i64 f.k,i64 f.wd,i64 f.id,i64 f.ix,.slice fa f.sub.length fc] 37 (0,0))] ++ A1) M lo v2 (os ++ ndAt (d' + 1) path false l i ++ [(⟨path ++ [i],l.take i,f,false⟩ : FNode)]) _ (path ++ [i]) (.slice (some ⟨bw,0,none⟩) (path.length + 1) (path.length + 1)) f.sub fa fc (false || f.k == 19) hw' hlo hA3 hro6 hno2 (by rw [List.length_append]; simp only [List.length_cons,List.length_nil]; omega) hway (by simp; omega) x6 x3 x5) (fun v7 L7 ⟨A7,xs7,hro7,hno7,hA7,hAA7⟩ => ?_))
          simp (disch:=omega) only[push_cast,Nat.reduceEqDiff,h0,h1,h2,h3,h12,h13,h14]
          have heq : (os ++ ndAt (d' + 1) path false l i ++ [(⟨path ++ [i],l.take i,f,false⟩ : FNode)] ++ nd (d' + 1) (path ++ [i]) (false || f.k == 19) f.sub).take 257 = (os ++ ndAt (d' + 1) path false l (i + 1)).take 257 := by
            rw [ndAt_succ (d' + 1) path false l i f hf]
            simp only [List.append_assoc,List.cons_append,List.nil_append]
          rw [heq] at hro7 hno7
          exact ⟨i + 1,L7,fun w hw => hw,⟨rfl,rfl,⟨A7,xs7,hro7,hno7,hA7,fun p hp => hAA7 p (List.mem_append_right _ (hAA p hp))⟩,by omega,h0,h1,h2,h12,h13,by simp only [upd]; rfl⟩,by omega⟩

        · simp (disch:=omega) only[push_cast,Nat.reduceEqDiff,h0,h1,h2,h3,h12,h13,h14]
          refine callV en_64 (callX_own (fun w' hw' => ih d' rfl wb w' L5 ([(b8,Obj.cells #[.slice (some ⟨bw,0,none⟩) (path.length + 1) (path.length + 1),str f.nm,.bool f.nl,i64 f.k,i64 f.wd,i64 f.id,i64 f.ix,.slice fa f.sub.length fc,.slice (some ⟨b,off,none⟩) i c,.bool true] 119 (0,0)),(bw,Obj.cells (ints (path ++ [i])).toArray 3 (0,0)),(bf,Obj.cells #[str f.nm,.bool f.nl,i64 f.k,i64 f.wd,i64 f.id,i64 f.ix,.slice fa f.sub.length fc] 37 (0,0))] ++ A1) M lo v2 (os ++ ndAt (d' + 1) path true l i ++ [(⟨path ++ [i],l.take i,f,true⟩ : FNode)]) _ (path ++ [i]) (.slice (some ⟨bw,0,none⟩) (path.length + 1) (path.length + 1)) f.sub fa fc (true || f.k == 19) hw' hlo hA3 hro6 hno2 (by rw [List.length_append]; simp only [List.length_cons,List.length_nil]; omega) hway (by simp; omega) x6 x3 x5) (fun v7 L7 ⟨A7,xs7,hro7,hno7,hA7,hAA7⟩ => ?_))
          simp (disch:=omega) only[push_cast,Nat.reduceEqDiff,h0,h1,h2,h3,h12,h13,h14]
          have heq : (os ++ ndAt (d' + 1) path true l i ++ [(⟨path ++ [i],l.take i,f,true⟩ : FNode)] ++ nd (d' + 1) (path ++ [i]) (true || f.k == 19) f.sub).take 257 = (os ++ ndAt (d' + 1) path true l (i + 1)).take 257 := by
            rw [ndAt_succ (d' + 1) path true l i f hf]
            simp only [List.append_assoc,List.cons_append,List.nil_append]
          rw [heq] at hro7 hno7
          exact ⟨i + 1,L7,fun w hw => hw,⟨rfl,rfl,⟨A7,xs7,hro7,hno7,hA7,fun p hp => hAA7 p (List.mem_append_right _ (hAA p hp))⟩,by omega,h0,h1,h2,h12,h13,by simp only [upd]; rfl⟩,by omega⟩

      · obtain rfl : d = 0 := by omega
        simp (disch:=omega) only[push_cast,Nat.reduceEqDiff,h0,h1,h2,h3,h12,h13,h14]
        have heq : (os ++ ndAt 0 path ind l (i + 1)).take 257 = os ++ ndAt 0 path ind l i ++ [(⟨path ++ [i],l.take i,f,ind⟩ : FNode)] := by
          rw [ndAt_succ 0 path ind l i f hf,← List.append_assoc]
          exact List.take_of_length_le (by rw [List.length_append]; simp only [nd,List.length_cons,List.length_nil]; omega)
        exact ⟨i + 1,L5,fun w hw => hw,⟨rfl,rfl,⟨[(b8,Obj.cells #[.slice (some ⟨bw,0,none⟩) (path.length + 1) (path.length + 1),str f.nm,.bool f.nl,i64 f.k,i64 f.wd,i64 f.id,i64 f.ix,.slice fa f.sub.length fc,.slice (some ⟨b,off,none⟩) i c,.bool ind] 119 (0,0)),(bw,Obj.cells (ints (path ++ [i])).toArray 3 (0,0)),(bf,Obj.cells #[str f.nm,.bool f.nl,i64 f.k,i64 f.wd,i64 f.id,i64 f.ix,.slice fa f.sub.length fc] 37 (0,0))] ++ A1,_,by rw [heq]; exact hro6,by rw [heq]; exact hno2,fun p hp => hA3 p (List.mem_append_left _ hp),fun p hp => List.mem_append_right _ (hAA p hp)⟩,by omega,h0,h1,h2,h12,h13,by simp only [upd]; rfl⟩,by omega⟩
  · obtain rfl : i = l.length := by omega
    simp (disch:=omega) only[push_cast,Nat.reduceEqDiff,h0,h1,h2,h3,h12,h13,h14]
    rw [← ndAt_all d path ind l l.length (Nat.le_refl _)]
    exact fun w' hw' => ⟨_,L,rfl,hw',A1,xs1,hro,hno,hA1,hAA⟩
theorem grow_ok : ∀ d,GrowOK d
  | 0 => grow_step 0 (fun d' h => by cases h)
  | d + 1 => grow_step (d + 1) (fun d' h => by cases h; exact grow_ok d)
end Go.Proofs.YtdmdgkpjjpijdaaGreatDoor
