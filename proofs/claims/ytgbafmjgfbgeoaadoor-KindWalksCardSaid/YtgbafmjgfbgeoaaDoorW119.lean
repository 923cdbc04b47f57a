/- YtgbafmjgfbgeoaaDoor: walks, part 118: ways and fields that are kept, each of its own memory. -/
import Derived.Test.YtgbafmjgfbgeoaaDoorW115
import Derived.Test.YtgbafmjgfbgeoaaDoorW116
import Derived.Test.YtgbafmjgfbgeoaaDoorW64
namespace Go.Proofs.YtgbafmjgfbgeoaaDoor
open Go Go.K
set_option maxRecDepth 100000
set_option linter.unusedVariables false
set_option linter.unusedSimpArgs false
set_option maxHeartbeats 1600000
/-- A way and a field that are kept: what the way holds, its block; the field and its blocks. -/
structure It where
  p : List Int
  f : Fld
  bw : Nat
  cap : Nat
  cs : List Value
  K : Own
  fa : Option Addr
  fc : Nat
structure ItOK (x : It) : Prop where
  h1 : x.p.length ≤ x.cap
  h2 : x.cap ≤ maxLen
  h3 : x.cs.length = x.cap
  h4 : x.cs.take x.p.length = x.p.map i64
  hF : OwF x.f x.K x.fa x.fc
def It.own (x : It) : Own := (x.bw, Obj.cells x.cs.toArray 3 (0, 0)) :: x.K
def It.way (x : It) : Value := .slice (some ⟨x.bw, 0, none⟩) x.p.length x.cap
def ownI (l : List It) : Own := l.flatMap It.own
def waysI (l : List It) : List Value := l.map It.way
def fldsI (l : List It) : List Value := l.flatMap fun x => x.f.cells x.fa x.fc
theorem ownI_append (a b : List It) : ownI (a ++ b) = ownI a ++ ownI b := by simp [ownI]
theorem ownI_one (x : It) : ownI [x] = x.own := by simp [ownI]
theorem waysI_append (a b : List It) : waysI (a ++ b) = waysI a ++ waysI b := by simp [waysI]
theorem fldsI_append (a b : List It) : fldsI (a ++ b) = fldsI a ++ fldsI b := by simp [fldsI]
theorem waysI_one (x : It) : waysI [x] = [x.way] := rfl
theorem fldsI_one (x : It) : fldsI [x] = x.f.cells x.fa x.fc := by simp [fldsI]
theorem split_at {α : Type} {l : List α} {i : Nat} {x : α} (h : l[i]? = some x) : l = l.take i ++ x :: l.drop (i + 1) := by
  obtain ⟨q1, rfl⟩ := List.getElem?_eq_some_iff.1 h
  rw [← List.drop_eq_getElem_cons q1, List.take_append_drop]
theorem set_at {α : Type} {l : List α} {i : Nat} {x : α} (y : α) (h : l[i]? = some x) : l.set i y = l.take i ++ y :: l.drop (i + 1) := by
  have q1 := (List.getElem?_eq_some_iff.1 h).1
  rw [List.set_eq_take_append_cons_drop, if_pos q1]
theorem own_set {l : List It} {i : Nat} {x : It} (y : It) (h : l[i]? = some x) : (ownI (l.set i y)).Perm (y.own ++ (ownI (l.take i) ++ ownI (l.drop (i + 1)))) := by
  rw [set_at y h, ownI_append, show y :: l.drop (i + 1) = [y] ++ l.drop (i + 1) from rfl, ownI_append, ownI_one]
  exact List.perm_append_comm_assoc _ _ _
theorem own_at {l : List It} {i : Nat} {x : It} (h : l[i]? = some x) : (ownI l).Perm (x.own ++ (ownI (l.take i) ++ ownI (l.drop (i + 1)))) := by
  have h2 := own_set x h
  rw [set_at x h, ← split_at h] at h2
  exact h2
theorem ways_set {l : List It} {i : Nat} {x y : It} (h : l[i]? = some x) (hw : y.way = x.way) : waysI (l.set i y) = waysI l := by
  rw [set_at y h]
  conv => rhs; rw [split_at h]
  simp [waysI, hw]
theorem flds_set {l : List It} {i : Nat} {x y : It} (h : l[i]? = some x) (hw : y.f.cells y.fa y.fc = x.f.cells x.fa x.fc) : fldsI (l.set i y) = fldsI l := by
  rw [set_at y h]
  conv => rhs; rw [split_at h]
  simp [fldsI, hw]
theorem ways_len (l : List It) : (waysI l).length = l.length := by simp [waysI]
theorem flds_len : ∀ (l : List It), (fldsI l).length = l.length * 7
  | [] => rfl
  | x :: l => by
    have := flds_len l
    simp only [fldsI, List.flatMap_cons, List.length_append, List.length_cons, Fld.cells, List.length_nil] at this ⊢
    omega
theorem ways_get {l : List It} {i : Nat} {x : It} (h : l[i]? = some x) : (waysI l)[i]? = some x.way := by simp [waysI, h]
theorem flds_get {l : List It} {i : Nat} {x : It} (h : l[i]? = some x) : ((fldsI l).drop (i * 7)).take 7 = x.f.cells x.fa x.fc := by
  have q1 := (List.getElem?_eq_some_iff.1 h).1
  have hl : (l.take i).length = i := by rw [List.length_take]; omega
  conv => lhs; rw [split_at h]
  rw [fldsI_append, show x :: l.drop (i + 1) = [x] ++ l.drop (i + 1) from rfl, fldsI_append, fldsI_one]
  have h7 : (fldsI (l.take i)).length = i * 7 := by rw [flds_len, hl]
  rw [← h7, List.drop_left]
  exact List.take_left (l₁ := x.f.cells x.fa x.fc)
theorem flds_cell {l : List It} {i k : Nat} {x : It} {v : Value} (h : l[i]? = some x) (hk : (x.f.cells x.fa x.fc)[k]? = some v) : (fldsI l)[i * 7 + k]? = some v := by
  have h1 := flds_get h
  have hk7 : k < 7 := (List.getElem?_eq_some_iff.1 hk).1
  rw [← h1, List.getElem?_take, if_pos hk7, List.getElem?_drop] at hk
  exact hk
/-- The nodes of a schema, as the document's list of them lies. -/
def WantAt (w : World) (lo : Nat) (va : Option Addr) (ns : List FNode) : Prop := ns = [] ∨ ∃ b, va = some ⟨b, 0, none⟩ ∧ b < lo ∧ ∀ i x, ns[i]? = some x → ∃ pb fa fc, At w b (i * 10) [.slice (some ⟨pb, 0, none⟩) x.path.length x.path.length] ∧ At w b (i * 10 + 1) (x.f.cells fa fc) ∧ pb < lo ∧ At w pb 0 (ints x.path) ∧ Rd w lo fa x.f.sub ∧ x.f.sub.length ≤ fc ∧ fc ≤ 9223372036854775807 ∧ x.f.nm.length ≤ 9223372036854775807
theorem at_sy {w w' : World} {b off lo : Nat} {vs : List Value} {M : Own} (h : At w b off vs) (hb : b < lo) (hlo : lo ≤ w.heap.size) (hs : Sy w M w') (hM : ∀ p ∈ M, lo ≤ p.1) : At w' b off vs :=
  h.of_block (hs.rest b (Nat.lt_of_lt_of_le hb hlo) (out_of fun p hp => Nat.lt_of_lt_of_le hb (hM p hp)))
theorem WantAt.sy {w w' : World} {lo : Nat} {va : Option Addr} {ns : List FNode} {M : Own} (h : WantAt w lo va ns) (hlo : lo ≤ w.heap.size) (hs : Sy w M w') (hM : ∀ p ∈ M, lo ≤ p.1) : WantAt w' lo va ns := by
  rcases h with rfl | ⟨b, rfl, hb, h⟩
  · exact .inl rfl
  · refine .inr ⟨b, rfl, hb, fun i x hx => ?_⟩
    obtain ⟨pb, fa, fc, h1, h2, h3, h4, h5, h6⟩ := h i x hx
    exact ⟨pb, fa, fc, at_sy h1 hb hlo hs hM, at_sy h2 hb hlo hs hM, h3, at_sy h4 h3 hlo hs hM, h5.sy hlo hs hM, h6⟩
theorem NodesC.want {wb w' : World} {lo : Nat} {A L : Own} {ns : List FNode} {xs cs : List Value} {rb : Nat} (hno : NodesC wb lo A ns xs) (hlo : lo ≤ wb.heap.size) (hw' : Sy wb L w') (hL : ∀ p ∈ L, wb.heap.size ≤ p.1) (hA : ∀ p ∈ A, p ∈ L) (hm : (rb, .cells cs.toArray 41 (0, 0)) ∈ L) (hcs : cs.take (ns.length * 10) = xs) : WantAt w' w'.heap.size (some ⟨rb, 0, none⟩) ns := by
  refine .inr ⟨rb, rfl, hw'.lt hm, fun i x hx => ?_⟩
  have hil := (List.getElem?_eq_some_iff.1 hx).1
  obtain ⟨ci, hci, htk⟩ := hno.get i hx
  obtain ⟨pb, fa, aa, fc, ac, rfl, hpm, hpb, hp65, hrd, hfc, hfc2, hnm, _⟩ := hci
  rw [← hcs, take_sub _ _ _ _ (by omega)] at htk
  have hat : At w' rb (i * 10) [.slice (some ⟨pb, 0, none⟩) x.path.length x.path.length, str x.f.nm, .bool x.f.nl, i64 x.f.k, i64 x.f.wd, i64 x.f.id, i64 x.f.ix, .slice fa x.f.sub.length fc, .slice aa x.ah.length ac, .bool x.ind] := ⟨_, _, _, hw'.own _ _ hm, htk⟩
  exact ⟨pb, fa, fc, hat.sub 0 [.slice (some ⟨pb, 0, none⟩) x.path.length x.path.length] rfl, hat.sub 1 (x.f.cells fa fc) rfl, hw'.lt (hA _ hpm), At.of_own hw' (hA _ hpm) (by simp), (hrd.sy hlo hw' (fun p hp => Nat.le_trans hlo (hL p hp))).weaken (Nat.le_trans hlo hw'.size), hfc, hfc2, hnm⟩
/-- The numbers of a way are small. -/
theorem nd_small : ∀ (d : Nat) (path : List Nat) (ind : Bool) (l : List Fld), okT l = true → l.length ≤ 32 → (∀ q ∈ path, q ≤ 32) → ∀ x ∈ nd d path ind l, ∀ q ∈ x.path, q ≤ 32
  | 0, _, _, _, _, _, _, x, h => by simp [nd] at h
  | d + 1, path, ind, l, hl, hl2, hp, x, h => by
    rw [nd] at h
    obtain ⟨⟨f, i⟩, hpi, hx⟩ := List.mem_flatMap.1 h
    have hf : l[i]? = some f := by simpa using List.mk_mem_zipIdx_iff_getElem?.1 hpi
    have hil := (List.getElem?_eq_some_iff.1 hf).1
    have h1 := (okS_iff f).1 (okT_get hl hf)
    have hq : ∀ q ∈ path ++ [i], q ≤ 32 := fun q hq => by
      rcases List.mem_append.1 hq with hq | hq
      · exact hp q hq
      · rw [List.mem_singleton.1 hq]; omega
    rcases List.mem_cons.1 hx with rfl | hx
    · exact hq
    · exact nd_small d _ _ _ h1.2 h1.1 hq x hx
theorem flat_congrA {α β : Type} {f g : α → List β} : ∀ {l : List α}, (∀ x ∈ l, f x = g x) → l.flatMap f = l.flatMap g
  | [], _ => rfl
  | a :: l, h => by rw [List.flatMap_cons, List.flatMap_cons, h a (.head _), flat_congrA fun x hx => h x (.tail _ hx)]
theorem nd_dpA : ∀ (d : Nat) (path : List Nat) (ind : Bool) (l : List Fld), Dp d l → nd (d + 1) path ind l = nd d path ind l
  | 0, path, ind, l, h => by cases h; rfl
  | d + 1, path, ind, l, h => by
    rw [nd, nd]
    refine flat_congrA fun p hp => ?_
    have hm : p.1 ∈ l := List.fst_mem_of_mem_zipIdx hp
    rw [nd_dpA d _ _ p.1.sub (h p.1 hm)]
theorem nd_okA : ∀ (d : Nat) (path : List Nat) (ind : Bool) (l : List Fld), okT l = true → ∀ x ∈ nd d path ind l, okS x.f = true
  | 0, _, _, _, _, x, h => by simp [nd] at h
  | d + 1, path, ind, l, hl, x, h => by
    rw [nd] at h
    obtain ⟨⟨f, i⟩, hp, hx⟩ := List.mem_flatMap.1 h
    have hf : l[i]? = some f := by simpa using List.mk_mem_zipIdx_iff_getElem?.1 hp
    have h1 := okT_get hl hf
    rcases List.mem_cons.1 hx with rfl | hx
    · exact h1
    · exact nd_okA d _ _ _ ((okS_iff f).1 h1).2 x hx
theorem bin_func_nilA {K : Value → Prop} {x : Operand} (g : FuncId) (xs cs : Array Value) : PureX Tryd.prog (binV .eql 32 x (.const .nilFunc) (.func (.func g) xs cs) .nilFunc) (tag K) = K (.bool false) := px (fun w => by kernel_rfl) K
end Go.Proofs.YtgbafmjgfbgeoaaDoor
/- YtgbafmjgfbgeoaaDoor: plain: ways and fields that are written over. -/
namespace Go.Proofs.YtgbafmjgfbgeoaaDoor
open Go Go.K
set_option maxRecDepth 100000
set_option linter.unusedVariables false
set_option linter.unusedSimpArgs false
set_option maxHeartbeats 1600000
/-- The first k numbers are raised. -/
def addTo (a : Int) (k : Nat) (p : List Int) : List Int := (p.take k).map (· + a) ++ p.drop k
theorem addTo_len (a : Int) (k : Nat) (p : List Int) : (addTo a k p).length = p.length := by simp [addTo]; omega
theorem addTo_zero (a : Int) (p : List Int) : addTo a 0 p = p := by simp [addTo]
theorem addTo_all (a : Int) (p : List Int) : addTo a p.length p = p.map (· + a) := by simp [addTo]
theorem addTo_get {a : Int} {k : Nat} {p : List Int} {x : Int} (h : p[k]? = some x) : (addTo a k p)[k]? = some x := by
  have hk := (List.getElem?_eq_some_iff.1 h).1
  rw [addTo, List.getElem?_append_right (by simp; omega)]
  simp only [List.length_map, List.length_take, Nat.min_eq_left (Nat.le_of_lt hk), Nat.sub_self, List.getElem?_drop, Nat.add_zero]
  exact h
theorem addTo_cell {a : Int} {k : Nat} {p : List Int} {x : Int} {cs : List Value} (h : cs.take p.length = (addTo a k p).map i64) (hx : p[k]? = some x) : cs[k]? = some (i64 x) := by
  have hk := (List.getElem?_eq_some_iff.1 hx).1
  have h1 : (cs.take p.length)[k]? = some (i64 x) := by rw [h, List.getElem?_map, addTo_get hx]; rfl
  rwa [List.getElem?_take, if_pos hk] at h1
theorem addTo_succ {a : Int} {k : Nat} {p : List Int} {x : Int} {cs : List Value} (h : cs.take p.length = (addTo a k p).map i64) (hx : p[k]? = some x) (hl : p.length ≤ cs.length) : (splice cs k [i64 (x + a)]).take p.length = (addTo a (k + 1) p).map i64 := by
  have hk := (List.getElem?_eq_some_iff.1 hx).1
  have hpk : (p.take k).length = k := by rw [List.length_take]; omega
  have h1 : cs.take k = ((p.take k).map (· + a)).map i64 := by
    have e1 : cs.take k = (cs.take p.length).take k := by rw [List.take_take, Nat.min_eq_left (by omega)]
    have e2 : ((p.take k).map (· + a)).map i64 = (((p.take k).map (· + a)).map i64 ++ (p.drop k).map i64).take k := by
      rw [List.take_append_of_le_length (by simp; omega)]
      exact (List.take_of_length_le (by simp; omega)).symm
    rw [e1, h, addTo, List.map_append, ← e2]
  have h2 : (cs.take p.length).drop (k + 1) = (p.drop (k + 1)).map i64 := by
    rw [h, addTo, List.map_append, List.drop_append, List.drop_of_length_le (by simp; omega), List.nil_append, ← List.map_drop, List.drop_drop]
    congr 2
    simp
    omega
  have h3 : addTo a (k + 1) p = (p.take k).map (· + a) ++ ([x + a] ++ p.drop (k + 1)) := by
    rw [addTo, List.take_add_one, hx]; simp
  rw [h3, List.map_append, List.map_append, ← h1, ← h2]
  unfold splice
  rw [List.take_append, List.take_of_length_le (by simp; omega), List.length_take, Nat.min_eq_left (by omega)]
  congr 1
  rw [List.take_append, List.take_of_length_le (by simp; omega)]
  congr 1
  rw [List.length_singleton, List.drop_take]
  congr 1
/-- The mark of number i. -/
def markB (i : Nat) : List UInt8 := [109, UInt8.ofNat (97 + i % 26)]
theorem mark_byte (i : Nat) : ∃ c : UInt8, c = UInt8.ofNat (97 + i % 26) ∧ (97 + (i : Int) % 26) = (c.toNat : Int) := ⟨_, rfl, by
  rw [UInt8.toNat_ofNat', Nat.mod_eq_of_lt (by omega)]
  omega⟩
def orig (ns : List FNode) (j : Nat) (x : It) : Prop := ItOK x ∧ ∃ n, ns[j]? = some n ∧ x.p = toInts n.path ∧ x.f = n.f
/-- What a way and a field are when they have been written over. -/
structure spoilt (ns : List FNode) (j : Nat) (x : It) : Prop where
  hx : ItOK x
  hp : ∃ n, ns[j]? = some n ∧ x.p = (toInts n.path).map (· + 1000 * ((j : Int) + 1))
  hm : ∀ g ∈ x.f.sub, g.nm = markB j
  hl : x.f.sub.length ≤ 1048576
  hw : wideL 1048576 x.f.sub = true
def Fld.with (f : Fld) (l : List Fld) : Fld := .mk f.nm f.nl f.k f.wd f.id f.ix l
theorem with_cells (f : Fld) (l : List Fld) (a : Option Addr) (c : Nat) (h : l.length = f.sub.length) : (Fld.with f l).cells a c = f.cells a c := by
  simp [Fld.with, Fld.cells, Fld.nm, Fld.nl, Fld.k, Fld.wd, Fld.id, Fld.ix, Fld.sub, h]
end Go.Proofs.YtgbafmjgfbgeoaaDoor
/- YtgbafmjgfbgeoaaDoor: walks, part 119: a whole walk within another one's loop, each way and field kept till the end. -/
namespace Go.Proofs.YtgbafmjgfbgeoaaDoor
open Go Go.K
set_option maxRecDepth 100000
set_option linter.unusedVariables false
set_option linter.unusedSimpArgs false
set_option maxHeartbeats 8000000
abbrev oS (b : Nat) (a : Option Addr) (l : List Fld) (c : Nat) (na : Option Addr) (nt : List NoteT) (nc : Nat) : Nat × Obj := (b, Obj.cells #[.slice a l.length c, .slice na nt.length nc] 25 (0, 0))
abbrev oV (b : Nat) (v : Value) (ty : TypeId) : Nat × Obj := (b, Obj.cells #[v] ty (0, 0))
abbrev oFd (b : Nat) (f : Fld) (fa : Option Addr) (fc : Nat) : Nat × Obj := (b, Obj.cells #[str f.nm, .bool f.nl, i64 f.k, i64 f.wd, i64 f.id, i64 f.ix, .slice fa f.sub.length fc] 38 (0, 0))
theorem infoInts : (Tryd.prog.info? 26).map (fun i => (i.zero, i.size, i.bytes)) = some (some (.slice none 0 0), 1, 24) := by kernel_rfl
theorem sizeInts : (Tryd.prog.info? 26).map (·.size) = some 1 := by kernel_rfl
theorem sizeFldC : (Tryd.prog.info? 38).map (·.size) = some 7 := by kernel_rfl
def cntP (ns : List FNode) (k : Nat) : Nat := if 3 ≤ k then ns.length else 0
/-- What is known when k ways and fields have been kept. -/
structure AgS (w : World) (ns : List FNode) (its : List It) (R1 R2 : Own) (vw vf : Value) (k : Nat) : Prop where
  hk : k ≤ ns.length
  hl : its.length = k
  ho : ∀ j x, its[j]? = some x → orig ns j x
  h1 : RowO w 26 1 R1 [] vw k (waysI its)
  h2 : RowO w 38 7 R2 [] vf k (fldsI its)
  hn : ∀ p ∈ ownI its, w.heap.size ≤ p.1
theorem AgS.new {w : World} {ns : List FNode} {its : List It} {R1 R2 : Own} {vw vf : Value} {k : Nat} (h : AgS w ns its R1 R2 vw vf k) : ∀ p ∈ R1 ++ (R2 ++ ownI its), w.heap.size ≤ p.1 := fun p hp => by
  rcases List.mem_append.1 hp with hp | hp
  · exact h.h1.new (by simp) p hp
  rcases List.mem_append.1 hp with hp | hp
  · exact h.h2.new (by simp) p hp
  · exact h.hn p hp
theorem mem6 {α : Type} {a b c d e f g : α} {l : List α} : a ∈ b :: c :: d :: e :: f :: g :: a :: l := .tail _ mem5
theorem mem7 {α : Type} {a b c d e f g h : α} {l : List α} : a ∈ b :: c :: d :: e :: f :: g :: h :: a :: l := .tail _ mem6
theorem mem8 {α : Type} {a b c d e f g h i : α} {l : List α} : a ∈ b :: c :: d :: e :: f :: g :: h :: i :: a :: l := .tail _ mem7
theorem mem9 {α : Type} {a b c d e f g h i j : α} {l : List α} : a ∈ b :: c :: d :: e :: f :: g :: h :: i :: j :: a :: l := .tail _ mem8
theorem out_lt {L : Own} {b n : Nat} (hb : b < n) (h : ∀ p ∈ L, n ≤ p.1) : b ∉ L.map (·.1) := out_of fun p hp => Nat.lt_of_lt_of_le hb (h p hp)
/-- What is known within the region that keeps a field. -/
structure AgR (w : World) (LZ REST : Own) (n : FNode) (fa : Option Addr) (fc : Nat) (its : List It) (k : Nat) (vf : Value) (b3 b5 b6 b7 b8 : Nat) (D : Nat → Bool) (e : Env) (ds : List Deferred) (L : Own) : Prop where
  hds : ds = []
  h3 : e 3 = .pointer (some ⟨b3, 0, none⟩)
  h5 : e 5 = .pointer (some ⟨b5, 0, none⟩)
  h6 : e 6 = .pointer (some ⟨b6, 0, none⟩)
  h7 : e 7 = .pointer (some ⟨b7, 0, none⟩)
  h8 : e 8 = .pointer (some ⟨b8, 0, none⟩)
  h51 : e 51 = .agg #[str n.f.nm, .bool n.f.nl, i64 n.f.k, i64 n.f.wd, i64 n.f.id, i64 n.f.ix, .slice fa n.f.sub.length fc]
  o : (D 3 = false ∧ D 4 = false ∧ L = LZ) ∨ (D 3 = true ∧ D 4 = false ∧ ∃ b, w.heap.size ≤ b ∧ L = (b, Obj.cells #[str [], .bool false, i64 0, i64 0, i64 0, i64 0, .slice none 0 0] 38 (0, 0)) :: LZ ∧ e 53 = .slice (some ⟨b, 0, none⟩) 1 1) ∨
    (D 3 = true ∧ D 4 = true ∧ D 0 = true ∧ D 2 = true ∧ ∃ (rb rcap : Nat) (cs : List Value), w.heap.size ≤ rb ∧ k + 1 ≤ rcap ∧ rcap ≤ maxLen ∧ cs.length = rcap * 7 ∧ cs.take ((k + 1) * 7) = fldsI its ++ [str [], .bool false, i64 0, i64 0, i64 0, i64 0, .slice none 0 0] ∧ e 54 = .slice (some ⟨rb, 0, none⟩) (k + 1) rcap ∧ (D 5 = true → e 55 = .pointer (some ⟨rb, k * 7, none⟩)) ∧ L = (rb, Obj.cells (if D 6 = true then splice cs (k * 7) [str n.f.nm, .bool n.f.nl, i64 n.f.k, i64 n.f.wd, i64 n.f.id, i64 n.f.ix, .slice fa n.f.sub.length fc] else cs).toArray 38 (0, 0)) :: oV b7 (if D 7 = true then .slice (some ⟨rb, 0, none⟩) (k + 1) rcap else vf) 22 :: REST)
  d0 : D 0 = true → e 50 = vf
  d2 : D 2 = true → e 52 = i64 k
  dq : D 4 = false → D 5 = false ∧ D 6 = false ∧ D 7 = false
theorem semT_ownA {c : Cfg} {code : Code} {Q : Post} {wb : World} {e : Env} {ds : List Deferred} {L L' : Own} (h : L' = L) (hs : SemT c (tag code) (tag Q) wb e ds L') : SemT c (tag code) (tag Q) wb e ds L := h ▸ hs
/-- The record of a loop that runs is told by a name. -/
theorem own_gen {c : Cfg} {code : Code} {Q : Post} {wb : World} {e : Env} {ds : List Deferred} {x : Nat × Obj} {l : Nat} {r : Loop} {T : Own} (h : ∀ bz : Loop, bz = r → VT c (tag code) (tag Q) wb e ds (x :: (l, Obj.loop bz) :: T)) : VT c (tag code) (tag Q) wb e ds (x :: (l, Obj.loop r) :: T) := h r rfl
theorem shareVA {c : Cfg} {code : Code} {Q : Post} {wb : World} {ds : List Deferred} {L : Own} {A : Prop} (F : Env → Prop) (br : (∀ e, F e → VT c (tag code) (tag Q) wb e ds L) → A) (lt : ∀ e, F e → VT c (tag code) (tag Q) wb e ds L) : A := br lt
@[push_cast] theorem bin_rem26 {K : Value → Prop} (t : TypeId) (x y : Operand) (n : Int) (h0 : 0 ≤ n) (h1 : n < 1000) : PureX Tryd.prog (binV .rem t x y (i64 n) (i64 26)) (tag K) = K (i64 (n % 26)) := px (fun w => by simp [binV, eqGuard, binOp, Op.intDiv]; rw [Int.tmod_eq_emod_of_nonneg h0]) K
mutual
theorem wideF_le {m n : Nat} (h : m ≤ n) : ∀ (f : Fld), wideF m f = true → wideF n f = true
  | .mk nm nl k wd id ix sub, hf => by
    rw [wideF, Bool.and_eq_true] at hf ⊢
    exact ⟨decide_eq_true (Nat.le_trans (of_decide_eq_true hf.1) h), wideL_le h hf.2⟩
theorem wideL_le {m n : Nat} (h : m ≤ n) : ∀ {l : List Fld}, wideL m l = true → wideL n l = true
  | [], _ => by rw [wideL]
  | f :: l, hl => by
    rw [wideL, Bool.and_eq_true] at hl ⊢
    exact ⟨wideF_le h f hl.1, wideL_le h hl.2⟩
end
theorem nd_len : ∀ (d : Nat) (path : List Nat) (ind : Bool) (l : List Fld), ∀ x ∈ nd d path ind l, x.path.length ≤ path.length + d
  | 0, _, _, _, x, h => by simp [nd] at h
  | d + 1, path, ind, l, x, h => by
    rw [nd] at h
    obtain ⟨⟨f, i⟩, hp, hx⟩ := List.mem_flatMap.1 h
    rcases List.mem_cons.1 hx with rfl | hx
    · simp <;> omega
    · have := nd_len d _ _ _ x hx
      simp at this
      omega
theorem RowK.mem {wb : World} {e : TypeId} {size n : Nat} {P0 : Own → Prop} {L M : Own} {v : Value} {xs : List Value} (h : RowK wb e size P0 L M v n xs) {p : Nat × Obj} (hp : p ∈ M) : p ∈ L := by
  rcases h with ⟨_, b, c, cs, rfl, rfl, _⟩ | ⟨M0, _, h⟩
  · exact .tail _ hp
  · exact RowO.mem h (List.mem_append_right _ hp)
theorem own_gen0 {c : Cfg} {code : Code} {Q : Post} {wb : World} {e : Env} {ds : List Deferred} {l : Nat} {r : Loop} {T : Own} (h : ∀ bz : Loop, bz = r → VT c (tag code) (tag Q) wb e ds ((l, Obj.loop bz) :: T)) : VT c (tag code) (tag Q) wb e ds ((l, Obj.loop r) :: T) := h r rfl
theorem tidyA {wb w : World} {rb b7 b10 l0 d0 c8 : Nat × Obj} {Z R T : Own} (h : Sy wb (rb :: b7 :: b10 :: l0 :: d0 :: c8 :: (Z ++ (R ++ T))) w) (hb : wb.heap.size ≤ b10.1) : Sy wb (l0 :: d0 :: c8 :: b7 :: (Z ++ (R ++ (rb :: T)))) w := by
  have h1 : Sy wb (rb :: b7 :: l0 :: d0 :: c8 :: (Z ++ (R ++ T))) w := h.mid [_, _] [_] (fun p hp => by rw [List.mem_singleton.1 hp]; exact hb)
  refine h1.perm ?_
  have p1 : (rb :: b7 :: l0 :: d0 :: c8 :: (Z ++ (R ++ T))).Perm (rb :: l0 :: d0 :: c8 :: b7 :: (Z ++ (R ++ T))) := (List.perm_middle (l₁ := [l0, d0, c8])).symm.cons _
  refine p1.trans ?_
  have p2 := (List.perm_middle (l₁ := l0 :: d0 :: c8 :: b7 :: (Z ++ R)) (a := rb) (l₂ := T)).symm
  simpa using p2
theorem tidyB {wb w : World} {l2 rb b7 b10 l0 d0 c8 : Nat × Obj} {Z R T : Own} (h : Sy wb (l2 :: c8 :: rb :: b7 :: b10 :: l0 :: d0 :: (Z ++ (R ++ T))) w) (hb : wb.heap.size ≤ b10.1) (hl : wb.heap.size ≤ l2.1) : Sy wb (l0 :: d0 :: c8 :: b7 :: (Z ++ (R ++ (rb :: T)))) w := by
  have h1 : Sy wb (c8 :: rb :: b7 :: b10 :: l0 :: d0 :: (Z ++ (R ++ T))) w := h.left (A := [_]) (fun p hp => by rw [List.mem_singleton.1 hp]; exact hl)
  refine tidyA (b10 := b10) (h1.perm ?_) hb
  exact (List.perm_middle (l₁ := [rb, b7, b10, l0, d0])).symm
/-- One more is kept. -/
theorem AgS.snoc {w : World} {ns : List FNode} {its : List It} {R1 R2 R1' : Own} {vw vf vw' : Value} {k : Nat} (h : AgS w ns its R1 R2 vw vf k) {n : FNode} (hn : ns[k]? = some n) {bw cap : Nat} {cs : List Value} {K : Own} {fa : Option Addr} {fc : Nat} (hpc : n.path.length ≤ cap) (hcm : cap ≤ maxLen) (hcl : cs.length = cap) (hct : cs.take n.path.length = ints n.path) (hF : OwF n.f K fa fc)
    (hnew : ∀ p ∈ (bw, Obj.cells cs.toArray 3 (0, 0)) :: K, w.heap.size ≤ p.1) (h1 : RowO w 26 1 R1' [] vw' (k + 1) (waysI its ++ [.slice (some ⟨bw, 0, none⟩) n.path.length cap])) {rb rcap : Nat} {cs' z : List Value} (hz : z.length = 7) (hrb : w.heap.size ≤ rb) (z2 : k + 1 ≤ rcap) (z3 : rcap ≤ maxLen) (z4 : cs'.length = rcap * 7) (z5 : cs'.take ((k + 1) * 7) = fldsI its ++ z) :
    AgS w ns (its ++ [⟨toInts n.path, n.f, bw, cap, cs, K, fa, fc⟩]) R1' [(rb, Obj.cells (splice cs' (k * 7) (n.f.cells fa fc)).toArray 38 (0, 0))] vw' (.slice (some ⟨rb, 0, none⟩) (k + 1) rcap) (k + 1) := by
  have hkl := (List.getElem?_eq_some_iff.1 hn).1
  have h7 : (n.f.cells fa fc).length = 7 := rfl
  refine ⟨hkl, by simp [h.hl], fun j x hj => ?_, ?_, ⟨?_, .inr ⟨rb, rcap, _, rfl, rfl, hrb, z2, z3, by rw [splice_length (by rw [h7]; omega)]; exact z4, ?_⟩⟩, fun p hp => ?_⟩
  · rw [List.getElem?_append] at hj
    split at hj
    · exact h.ho j x hj
    · rename_i hlt
      have hjk : j = k := by
        have := (List.getElem?_eq_some_iff.1 hj).1
        have h8 := h.hl
        simp only [List.length_cons, List.length_nil] at this
        omega
      subst hjk
      rw [h.hl, Nat.sub_self] at hj
      cases hj
      exact ⟨⟨by rw [toInts_length]; exact hpc, hcm, hcl, by simp only [toInts_length]; rw [hct]; simp [ints, toInts], hF⟩, n, hn, rfl, rfl⟩
  · rw [waysI_append, waysI_one, It.way]
    simp only [toInts_length]
    exact h1
  · rw [flds_len]; simp [h.hl]
  · rw [Nat.add_mul, Nat.one_mul, splice_take h7 (by omega), fldsI_append, fldsI_one]
    have h9 : cs'.take (k * 7) = (cs'.take ((k + 1) * 7)).take (k * 7) := by rw [List.take_take, Nat.min_eq_left (by omega)]
    rw [h9, z5, List.take_append_of_le_length (by rw [flds_len, h.hl]; omega), List.take_of_length_le (by rw [flds_len, h.hl]; omega)]
  · rw [ownI_append, ownI_one] at hp
    rcases List.mem_append.1 hp with hp | hp
    · exact h.hn p hp
    · exact hnew p hp
/-- What is known behind the loop over all fields. -/
structure AgD (w : World) (ns : List FNode) (a : Option Addr) (l : List Fld) (c : Nat) (na : Option Addr) (nt : List NoteT) (nc : Nat) (va : Option Addr) (vc b2 b3 b4 b5 b6 b7 b8 bk : Nat) (wb : World) (e : Env) (ds : List Deferred) (L : Own) : Prop where
  hw : wb = w
  o : ∃ (d lr : Nat) (x : Obj) (its : List It) (R1 R2 : Own) (vw vf : Value), w.heap.size ≤ d ∧ w.heap.size ≤ lr ∧ ds = [{ target := .collected d, args := #[] }] ∧ AgS w ns its R1 R2 vw vf ns.length ∧ L = (lr, x) :: (d, Obj.deferred (some [])) :: oV b8 (i64 ((cntP ns ns.length : Nat))) 3 :: oV b7 vf 22 :: oV b6 vw 45 :: oV b5 (.func (.func 40) #[] #[.pointer (some ⟨bk, 0, none⟩)]) 32 :: oV b4 (.bool false) 4 :: oV b3 (.slice va ns.length vc) 28 :: oS b2 a l c na nt nc :: (R1 ++ (R2 ++ ownI its))
  h3 : e 3 = .pointer (some ⟨b3, 0, none⟩)
  h4 : e 4 = .pointer (some ⟨b4, 0, none⟩)
  h6 : e 6 = .pointer (some ⟨b6, 0, none⟩)
  h7 : e 7 = .pointer (some ⟨b7, 0, none⟩)
  h8 : e 8 = .pointer (some ⟨b8, 0, none⟩)
theorem _root_.Go.K.RowO.some_of {wb : World} {e : TypeId} {size n : Nat} {L M : Own} {v : Value} {xs : List Value} (h : RowO wb e size L M v n xs) (hn : 0 < n) : ∃ (b cap : Nat) (cs : List Value), v = .slice (some ⟨b, 0, none⟩) n cap ∧ L = (b, .cells cs.toArray e (0, 0)) :: M ∧ wb.heap.size ≤ b ∧ n ≤ cap ∧ cap ≤ maxLen ∧ cs.length = cap * size ∧ cs.take (n * size) = xs := by
  obtain ⟨_, ⟨_, h0, _⟩ | h⟩ := h
  · omega
  · exact h
/-- The first loop: ways and fields are written over, one after the other. -/
structure L1I (w0 : World) (ds0 : List Deferred) (HD : Own) (ns : List FNode) (W F : List Value) (b3 b4 b6 b7 : Nat) (i : Nat) (wb : World) (e : Env) (ds : List Deferred) (L : Own) : Prop where
  hw : wb = w0
  hds : ds = ds0
  o : ∃ its : List It, L = HD ++ ownI its ∧ its.length = ns.length ∧ waysI its = W ∧ fldsI its = F ∧ (∀ j x, its[j]? = some x → (j < i → spoilt ns j x) ∧ (i ≤ j → orig ns j x)) ∧ ∀ p ∈ ownI its, w0.heap.size ≤ p.1
  hi : i ≤ ns.length
  h3 : e 3 = .pointer (some ⟨b3, 0, none⟩)
  h4 : e 4 = .pointer (some ⟨b4, 0, none⟩)
  h6 : e 6 = .pointer (some ⟨b6, 0, none⟩)
  h7 : e 7 = .pointer (some ⟨b7, 0, none⟩)
  h85 : e 85 = i64 ns.length
  h86 : e 86 = i64 i
/-- Within it: the numbers of one way. -/
structure L2I (w0 : World) (ds0 : List Deferred) (RR : Own) (p : List Int) (a : Int) (bw cap n i : Nat) (b3 b4 b6 b7 : Nat) (k : Nat) (wb : World) (e : Env) (ds : List Deferred) (L : Own) : Prop where
  hw : wb = w0
  hds : ds = ds0
  o : ∃ cs : List Value, L = (bw, Obj.cells cs.toArray 3 (0, 0)) :: RR ∧ cs.length = cap ∧ cs.take p.length = (addTo a k p).map i64
  hk : k ≤ p.length
  h3 : e 3 = .pointer (some ⟨b3, 0, none⟩)
  h4 : e 4 = .pointer (some ⟨b4, 0, none⟩)
  h6 : e 6 = .pointer (some ⟨b6, 0, none⟩)
  h7 : e 7 = .pointer (some ⟨b7, 0, none⟩)
  h85 : e 85 = i64 n
  h86 : e 86 = i64 i
  h11 : e 11 = i64 i
  h93 : e 93 = i64 p.length
  h94 : e 94 = i64 k
/-- The second loop: behind each way and field is put more. -/
structure L3I (w0 : World) (ds0 : List Deferred) (HD : Own) (ns : List FNode) (W F : List Value) (b3 b4 b6 b7 : Nat) (i : Nat) (wb : World) (e : Env) (ds : List Deferred) (L : Own) : Prop where
  hw : wb = w0
  hds : ds = ds0
  o : ∃ its : List It, L = HD ++ ownI its ∧ its.length = ns.length ∧ waysI its = W ∧ fldsI its = F ∧ (∀ j x, its[j]? = some x → spoilt ns j x) ∧ ∀ p ∈ ownI its, w0.heap.size ≤ p.1
  hi : i ≤ ns.length
  h3 : e 3 = .pointer (some ⟨b3, 0, none⟩)
  h4 : e 4 = .pointer (some ⟨b4, 0, none⟩)
  h6 : e 6 = .pointer (some ⟨b6, 0, none⟩)
  h7 : e 7 = .pointer (some ⟨b7, 0, none⟩)
  h126 : e 126 = i64 ns.length
  h127 : e 127 = i64 i
/-- Within it: what is put behind one way. -/
structure L4I (w0 : World) (ds0 : List Deferred) (P0 : Own → Prop) (RR : Own) (n0 n i : Nat) (b3 b4 b6 b7 : Nat) (k : Nat) (wb : World) (e : Env) (ds : List Deferred) (L : Own) : Prop where
  hw : wb = w0
  hds : ds = ds0
  o : ∃ (v : Value) (xs : List Value), e 14 = v ∧ RowK w0 3 1 P0 L RR v (n0 + k) xs
  hk : k ≤ 12
  h3 : e 3 = .pointer (some ⟨b3, 0, none⟩)
  h4 : e 4 = .pointer (some ⟨b4, 0, none⟩)
  h6 : e 6 = .pointer (some ⟨b6, 0, none⟩)
  h7 : e 7 = .pointer (some ⟨b7, 0, none⟩)
  h126 : e 126 = i64 n
  h127 : e 127 = i64 i
  h13 : e 13 = i64 i
  h15 : e 15 = i64 k
/-- The third loop: each way and field is looked at. -/
structure L5I (w0 : World) (ds0 : List Deferred) (LL : Own) (n : Nat) (b3 b4 b6 b7 : Nat) (i : Nat) (wb : World) (e : Env) (ds : List Deferred) (L : Own) : Prop where
  hw : wb = w0
  hds : ds = ds0
  o : L = LL
  hi : i ≤ n
  h3 : e 3 = .pointer (some ⟨b3, 0, none⟩)
  h4 : e 4 = .pointer (some ⟨b4, 0, none⟩)
  h6 : e 6 = .pointer (some ⟨b6, 0, none⟩)
  h7 : e 7 = .pointer (some ⟨b7, 0, none⟩)
  h150 : e 150 = i64 n
  h151 : e 151 = i64 i
structure L6I (w0 : World) (ds0 : List Deferred) (LL : Own) (n i np : Nat) (b3 b4 b6 b7 : Nat) (k : Nat) (wb : World) (e : Env) (ds : List Deferred) (L : Own) : Prop where
  hw : wb = w0
  hds : ds = ds0
  o : L = LL
  hk : k ≤ np
  h3 : e 3 = .pointer (some ⟨b3, 0, none⟩)
  h4 : e 4 = .pointer (some ⟨b4, 0, none⟩)
  h6 : e 6 = .pointer (some ⟨b6, 0, none⟩)
  h7 : e 7 = .pointer (some ⟨b7, 0, none⟩)
  h150 : e 150 = i64 n
  h151 : e 151 = i64 i
  h16 : e 16 = i64 i
  h158 : e 158 = i64 np
  h159 : e 159 = i64 k
structure L7I (w0 : World) (ds0 : List Deferred) (LL : Own) (n i np : Nat) (sv : Value) (b3 b4 b6 b7 : Nat) (k : Nat) (wb : World) (e : Env) (ds : List Deferred) (L : Own) : Prop where
  hw : wb = w0
  hds : ds = ds0
  o : L = LL
  hk : k ≤ np
  h3 : e 3 = .pointer (some ⟨b3, 0, none⟩)
  h4 : e 4 = .pointer (some ⟨b4, 0, none⟩)
  h6 : e 6 = .pointer (some ⟨b6, 0, none⟩)
  h7 : e 7 = .pointer (some ⟨b7, 0, none⟩)
  h150 : e 150 = i64 n
  h151 : e 151 = i64 i
  h16 : e 16 = i64 i
  h188 : e 188 = sv
  h189 : e 189 = i64 np
  h190 : e 190 = i64 k
theorem again_walk (w : World) (hs : SaysAt w) (lo : Nat) (hlo : lo ≤ w.heap.size) (a : Option Addr) (l : List Fld) (c : Nat) (na : Option Addr) (nt : List NoteT) (nc : Nat) (hsc : SchAt w lo a l c na nt nc) (hm : mayP l nt = true) (ns : List FNode) (hns : ns = nodesP l nt) (hn0 : 0 < ns.length) (va : Option Addr) (vc : Nat) (hwa : WantAt w lo va ns) :
    Calls Tryd.prog 14 #[schV a l c na nt nc, .slice va ns.length vc] w (Rets w (Is (.bool true))) := by
  have hwl : walkL l nt = l := by unfold walkL; rw [hm]; rfl
  have hnd : ns = nd 64 [] false l := by rw [hns]; unfold nodesP; rw [if_pos hm, nd_dpA 64 [] false l (may_dp hm)]
  have h256 : ns.length ≤ 256 := by rw [hns]; unfold nodesP; rw [if_pos hm]; exact few_nodes hm
  obtain ⟨sm1, sm2⟩ := small_may hm
  have hokn : ∀ x ∈ ns, okS x.f = true := fun x hx => nd_okA 64 [] false l sm1 x (by rw [← hnd]; exact hx)
  have hsmall : ∀ x ∈ ns, ∀ q ∈ x.path, q ≤ 32 := fun x hx => nd_small 64 [] false l sm1 sm2 (by simp) x (by rw [← hnd]; exact hx)
  refine enterM (args := [schV a l c na nt nc, .slice va ns.length vc]) Tryd.func14 rfl Tryd.ntmps14 (congrArg Array.toList Tryd.results14) (by kernel_rfl) (by simp) (Sy.refl w) ?_
  simp (disch := omega) only [push_cast, Nat.reduceEqDiff, schV]
  refine newI (fun b2 hb2 hn2 => ?_)
  simp (disch := omega) only [push_cast, Nat.reduceEqDiff]
  refine newI (fun b3 hb3 hn3 => ?_)
  simp (disch := omega) only [push_cast, Nat.reduceEqDiff]
  refine newI (fun b4 hb4 hn4 => ?_)
  simp (disch := omega) only [push_cast, Nat.reduceEqDiff]
  refine loadX_agg Shp.eq mem2 rfl rfl ?_
  simp (disch := omega) only [push_cast, Nat.reduceEqDiff]
  have hL3 : ∀ x y z : Obj, ∀ p ∈ [(b4, x), (b3, y), (b2, z)], w.heap.size ≤ p.1 := fun x y z p hp => by
    simp only [List.mem_cons, List.mem_nil_iff, or_false] at hp
    rcases hp with rfl | rfl | rfl <;> assumption
  have k1 := fun w' (L' : Own) (hL' : ∀ p ∈ L', w.heap.size ≤ p.1) hw' => hsc.sy hlo (w' := w') (M := L') hw' (fun p hp => Nat.le_trans hlo (hL' p hp))
  refine callV en_10 (callX_newR (fun w' hw' => walk_walk w' (hs.mono hw' (hL3 _ _ _)) lo (Nat.le_trans hlo hw'.size) a l c na nt nc (k1 w' _ (hL3 _ _ _) hw')) (fun v M hM hMn hS => ?_))
  rw [hwl] at hS
  obtain ⟨bk, ka, kc, rfl, hbk, hkc, hkc2, hrx⟩ := hS
  simp (disch := omega) only [push_cast, Nat.reduceEqDiff]
  refine newI (fun b5 hb5 hn5 => ?_)
  simp (disch := omega) only [push_cast, Nat.reduceEqDiff]
  refine storeX 0 rfl Siz.eq rfl rfl (by simp [Value.oneCell']) (by simp) ?_
  simp (disch := omega) only [push_cast, Nat.reduceEqDiff]
  refine ldOne Shp.eq mem0 rfl ?_
  simp (disch := omega) only [push_cast, Nat.reduceEqDiff]
  rw [bin_func_nilA]
  simp (disch := omega) only [push_cast, Nat.reduceEqDiff]
  rw [V_cond]
  simp (disch := omega) only [push_cast, Nat.reduceEqDiff]
  refine makeEmpty un_45 sizeInts (newI fun rw0 hrw0 hnrw0 => ?_)
  simp (disch := omega) only [push_cast, Nat.reduceEqDiff]
  refine newI (fun b6 hb6 hn6 => ?_)
  simp (disch := omega) only [push_cast, Nat.reduceEqDiff]
  refine storeX 0 rfl Siz.eq rfl rfl (by simp [Value.oneCell']) (by simp) ?_
  simp (disch := omega) only [push_cast, Nat.reduceEqDiff]
  refine makeEmpty un_22 sizeFldC (newI fun rf0 hrf0 hnrf0 => ?_)
  simp (disch := omega) only [push_cast, Nat.reduceEqDiff]
  refine newI (fun b7 hb7 hn7 => ?_)
  simp (disch := omega) only [push_cast, Nat.reduceEqDiff]
  refine storeX 0 rfl Siz.eq rfl rfl (by simp [Value.oneCell']) (by simp) ?_
  simp (disch := omega) only [push_cast, Nat.reduceEqDiff]
  refine newI (fun b8 hb8 hn8 => ?_)
  simp (disch := omega) only [push_cast, Nat.reduceEqDiff]
  refine storeX 0 rfl Siz.eq rfl rfl (by simp [Value.oneCell']) (by simp) ?_
  simp (disch := omega) only [push_cast, Nat.reduceEqDiff]
  -- the loop
  refine ldOne Shp.eq mem5 rfl ?_
  simp (disch := omega) only [push_cast, Nat.reduceEqDiff]
  have hag0 : AgS w ns [] [(rw0, Obj.cells #[] 26 (0, 0))] [(rf0, Obj.cells #[] 38 (0, 0))] (.slice (some ⟨rw0, 0, none⟩) 0 0) (.slice (some ⟨rf0, 0, none⟩) 0 0) 0 := ⟨Nat.zero_le _, rfl, by simp, ⟨rfl, .inr ⟨rw0, 0, [], rfl, rfl, hrw0, by omega, by simp only [maxLen]; omega, rfl, rfl⟩⟩, ⟨rfl, .inr ⟨rf0, 0, [], rfl, rfl, hrf0, by omega, by simp only [maxLen]; omega, rfl, rfl⟩⟩, by simp [ownI]⟩
  refine cutV (AgD w ns a l c na nt nc va vc b2 b3 b4 b5 b6 b7 b8 bk) ?_ ?_
  · rw [V_block]
    simp (disch := omega) only [push_cast, Nat.reduceEqDiff]
    refine forgetS (fun e => e 3 = .pointer (some ⟨b3, 0, none⟩) ∧ e 4 = .pointer (some ⟨b4, 0, none⟩) ∧ e 5 = .pointer (some ⟨b5, 0, none⟩) ∧ e 6 = .pointer (some ⟨b6, 0, none⟩) ∧ e 7 = .pointer (some ⟨b7, 0, none⟩) ∧ e 8 = .pointer (some ⟨b8, 0, none⟩) ∧ e 26 = .func (.func 40) #[] #[.pointer (some ⟨bk, 0, none⟩)]) ⟨rfl, rfl, rfl, rfl, rfl, rfl, rfl⟩ ?_
    rintro e ⟨e3, e4, e5, e6, e7, e8, e26⟩
    refine rangeY rfl e26 en_40 (fun fn tm d lr rec hrec htm hdl hd hlr hdn hlrn w' hw' => ?_)
    have hLB : ∀ (x : Obj) (vf vw : Value) (k : Int) (T : Own), (∀ p ∈ T, w.heap.size ≤ p.1) → ∀ p ∈ (lr, x) :: (d, Obj.deferred (some [])) :: oV b8 (i64 (k)) 3 :: oV b7 vf 22 :: oV b6 vw 45 :: oV b5 (.func (.func 40) #[] #[.pointer (some ⟨bk, 0, none⟩)]) 32 :: oV b4 (.bool false) 4 :: oV b3 (.slice va ns.length vc) 28 :: oS b2 a l c na nt nc :: (T), w.heap.size ≤ p.1 := fun x vf vw k T hT p hp => by
      simp only [List.mem_cons] at hp
      rcases hp with rfl | rfl | rfl | rfl | rfl | rfl | rfl | rfl | rfl | hp
      · exact hlr
      · exact hd
      · exact hb8
      · exact hb7
      · exact hb6
      · exact hb5
      · exact hb4
      · exact hb3
      · exact hb2
      · exact hT p hp
    refine (owalk1_walk w M ns
      (fun k C => ∃ (its : List It) (R1 R2 : Own) (vw vf : Value), AgS w ns its R1 R2 vw vf k ∧ C = (lr, Obj.loop rec) :: (d, Obj.deferred (some [])) :: oV b8 (i64 ((cntP ns k : Nat))) 3 :: oV b7 vf 22 :: oV b6 vw 45 :: oV b5 (.func (.func 40) #[] #[.pointer (some ⟨bk, 0, none⟩)]) 32 :: oV b4 (.bool false) 4 :: oV b3 (.slice va ns.length vc) 28 :: oS b2 a l c na nt nc :: (R1 ++ (R2 ++ ownI its)))
      (fun k C => False) (.func (.yield lr) #[] #[]) rfl rfl ⟨(by intro g f c h; cases h), ?_, (fun k C h => h.elim), ?_⟩ w' ((lr, Obj.loop rec) :: (d, Obj.deferred (some [])) :: oV b8 (i64 (0)) 3 :: oV b7 (.slice (some ⟨rf0, 0, none⟩) 0 0) 22 :: oV b6 (.slice (some ⟨rw0, 0, none⟩) 0 0) 45 :: oV b5 (.func (.func 40) #[] #[.pointer (some ⟨bk, 0, none⟩)]) 32 :: oV b4 (.bool false) 4 :: oV b3 (.slice va ns.length vc) 28 :: oS b2 a l c na nt nc :: ([(rw0, Obj.cells #[] 26 (0, 0))] ++ ([(rf0, Obj.cells #[] 38 (0, 0))] ++ []))) M bk l ka kc
      (hw'.perm ?_) ⟨[], _, _, _, _, hag0, rfl⟩ hM (fun p hp => hp) hbk hrx hkc hkc2 hokn hnd).mono ?_
    · rintro k C ⟨its, R1, R2, vw, vf, hA, rfl⟩ p hp
      exact hLB _ _ _ _ _ hA.new p hp
    · rintro k n hkn C K Mx bw cap cs fa fc ⟨its, R1, R2, vw, vf, hA, rfl⟩ hpc hcm hcl hct hF hpl hNM hM0 w2 hw2
      have hklt : k < ns.length := (List.getElem?_eq_some_iff.1 hkn).1
      obtain ⟨vb, rfl, hvb, hwn⟩ : ∃ b, va = some ⟨b, 0, none⟩ ∧ b < lo ∧ ∀ i x, ns[i]? = some x → ∃ pb fa fc, At w b (i * 10) [.slice (some ⟨pb, 0, none⟩) x.path.length x.path.length] ∧ At w b (i * 10 + 1) (x.f.cells fa fc) ∧ pb < lo ∧ At w pb 0 (ints x.path) ∧ Rd w lo fa x.f.sub ∧ x.f.sub.length ≤ fc ∧ fc ≤ 9223372036854775807 ∧ x.f.nm.length ≤ 9223372036854775807 := by
        rcases hwa with h | h
        · rw [h] at hklt; simp at hklt
        · exact h
      obtain ⟨pb, ga, gc, g1, g2, g3, g4, g5, g6, g7, g8⟩ := hwn k n hkn
      have hAk := hA.new
      obtain ⟨T1, hT1⟩ : ∃ T1 : Own, T1 = ownI its ++ (((bw, Obj.cells cs.toArray 3 (0, 0)) :: K) ++ Mx) := ⟨_, rfl⟩
      have hT1n : ∀ p ∈ T1, w.heap.size ≤ p.1 := fun p hp => by
        rw [hT1] at hp
        rcases List.mem_append.1 hp with hp | hp
        · exact hA.hn p hp
        · exact hNM p hp
      have hT2n : ∀ p ∈ R2 ++ T1, w.heap.size ≤ p.1 := fun p hp => by
        rcases List.mem_append.1 hp with hp | hp
        · exact hA.h2.new (by simp) p hp
        · exact hT1n p hp
      have hTn : ∀ p ∈ R1 ++ (R2 ++ T1), w.heap.size ≤ p.1 := fun p hp => by
        rcases List.mem_append.1 hp with hp | hp
        · exact hA.h1.new (by simp) p hp
        · exact hT2n p hp
      have hw3 : Sy w ((lr, Obj.loop rec) :: (d, Obj.deferred (some [])) :: oV b8 (i64 ((cntP ns k : Nat))) 3 :: oV b7 vf 22 :: oV b6 vw 45 :: oV b5 (.func (.func 40) #[] #[.pointer (some ⟨bk, 0, none⟩)]) 32 :: oV b4 (.bool false) 4 :: oV b3 (.slice (some ⟨vb, 0, none⟩) ns.length vc) 28 :: oS b2 a l c na nt nc :: (R1 ++ (R2 ++ T1))) w2 := by
        rw [hT1]; simpa using hw2
      obtain ⟨va1, vc1, rfl⟩ := hA.h1.is_slice
      obtain ⟨va2, vc2, rfl⟩ := hA.h2.is_slice
      subst hrec
      refine roundX (i := 0) rfl htm rfl (by simp) (by kernel_rfl) (by kernel_rfl) ?_ w2 hw3
      simp (disch := omega) only [push_cast, Nat.reduceEqDiff, e3, e4, e5, e6, e7, e8, Fld.cells]
      refine newI (fun b10 hb10 hn10 => ?_)
      simp (disch := omega) only [push_cast, Nat.reduceEqDiff, e3, e4, e5, e6, e7, e8]
      repeat' (first | ((first | refine guardX_t rfl (fun h => ?_) (fun h => ?_) | refine guardX_f rfl (fun h => ?_) (fun h => ?_) | refine condX_d (fun h => ?_) (fun h => ?_) | (refine guardX_bt rfl (fun h => ?_) (fun h => ?_) <;> (try subst h)) | (refine guardX_bf rfl (fun h => ?_) (fun h => ?_) <;> (try subst h)) | (refine condX_b (fun h => ?_) (fun h => ?_) <;> (try subst h)) | refine ldOne Shp.eq (by (first | exact mem0 | exact mem1 | exact mem2 | exact mem3 | exact mem4 | exact mem5)) rfl ?_ | refine loadX_agg Shp.eq (by (first | exact mem0 | exact mem1 | exact mem2 | exact mem3 | exact mem4 | exact mem5)) rfl rfl ?_ | refine newI (fun b hb hn => ?_) | refine storeX 0 rfl Siz.eq rfl rfl (by simp [Value.oneCell']) (by simp) ?_ | refine storeX 1 rfl Siz.eq rfl rfl (by simp [Value.oneCell']) (by simp) ?_ | refine storeX 2 rfl Siz.eq rfl rfl (by simp [Value.oneCell']) (by simp) ?_ | refine storeX 3 rfl Siz.eq rfl rfl (by simp [Value.oneCell']) (by simp) ?_ | refine storeX 4 rfl Siz.eq rfl rfl (by simp [Value.oneCell']) (by simp) ?_ | refine storeX 5 rfl Siz.eq rfl rfl (by simp [Value.oneCell']) (by simp) ?_ | refine storeX 6 rfl Siz.eq rfl rfl (by simp [Value.oneCell']) (by simp) ?_) <;> simp (disch := omega) only [push_cast, Nat.reduceEqDiff, e3, e4, e5, e6, e7, e8]))
      refine ⟨1, rfl, ?_⟩
      simp (disch := omega) only [push_cast, Nat.reduceEqDiff, e3, e4, e5, e6, e7, e8]
      refine own_gen (fun bz hbz => ?_)
      rw [V_block]
      simp (disch := omega) only [push_cast, Nat.reduceEqDiff, e3, e4, e5, e6, e7, e8]
      have hout : ∀ (x y : Obj) (vf vw : Value) (j : Int) (T : Own), (∀ p ∈ T, w.heap.size ≤ p.1) → ∀ p ∈ (b10, x) :: (lr, y) :: (d, Obj.deferred (some [])) :: oV b8 (i64 (j)) 3 :: oV b7 vf 22 :: oV b6 vw 45 :: oV b5 (.func (.func 40) #[] #[.pointer (some ⟨bk, 0, none⟩)]) 32 :: oV b4 (.bool false) 4 :: oV b3 (.slice (some ⟨vb, 0, none⟩) ns.length vc) 28 :: oS b2 a l c na nt nc :: (T), w.heap.size ≤ p.1 := fun x y vf vw j T hT p hp => by
        rcases List.mem_cons.1 hp with rfl | hp
        · exact hb10
        · exact hLB _ _ _ _ _ hT p hp
      refine ldOne Shp.eq mem5 rfl ?_
      simp (disch := omega) only [push_cast, Nat.reduceEqDiff, e3, e4, e5, e6, e7, e8]
      refine ldOne Shp.eq mem8 rfl ?_
      simp (disch := omega) only [push_cast, Nat.reduceEqDiff, e3, e4, e5, e6, e7, e8]
      refine guardX_f rfl (fun hne => ?_) (fun h => absurd h (by omega))
      simp (disch := omega) only [push_cast, Nat.reduceEqDiff, e3, e4, e5, e6, e7, e8]
      refine ldOne Shp.eq mem8 rfl ?_
      simp (disch := omega) only [push_cast, Nat.reduceEqDiff, e3, e4, e5, e6, e7, e8]
      refine ldOne Shp.eq mem5 rfl ?_
      simp (disch := omega) only [push_cast, Nat.reduceEqDiff, e3, e4, e5, e6, e7, e8]
      refine ldF Shp.eq g1 (out_lt (Nat.lt_of_lt_of_le hvb hlo) (hout _ _ _ _ _ _ hTn)) ?_
      simp (disch := omega) only [push_cast, Nat.reduceEqDiff, e3, e4, e5, e6, e7, e8, ne_eq, not_true_eq_false, decide_false]
      rw [V_cond]
      simp (disch := omega) only [push_cast, Nat.reduceEqDiff, e3, e4, e5, e6, e7, e8]
      refine ldOne Shp.eq mem5 rfl ?_
      simp (disch := omega) only [push_cast, Nat.reduceEqDiff, e3, e4, e5, e6, e7, e8]
      refine bs_45_1 (newI fun b48 hb48 hn48 => ?_)
      simp (disch := omega) only [push_cast, Nat.reduceEqDiff, e3, e4, e5, e6, e7, e8]
      have hA1 := hA.h1
      refine valX_weak (L' := R1 ++ (oV b48 (.slice (some ⟨bw, 0, none⟩) n.path.length cap) 26 :: oFd b10 n.f fa fc :: (lr, Obj.loop bz) :: (d, Obj.deferred (some [])) :: oV b8 (i64 ((cntP ns k : Nat))) 3 :: oV b7 (.slice va2 k vc2) 22 :: oV b6 (.slice va1 k vc1) 45 :: oV b5 (.func (.func 40) #[] #[.pointer (some ⟨bk, 0, none⟩)]) 32 :: oV b4 (.bool false) 4 :: oV b3 (.slice (some ⟨vb, 0, none⟩) ns.length vc) 28 :: oS b2 a l c na nt nc :: (R2 ++ T1))) (fun w hw => hw.perm (List.perm_append_comm_assoc [_, _, _, _, _, _, _, _, _, _, _] R1 (R2 ++ T1))) (appendI un_45 infoInts rfl (m := 1) (news := [.slice (some ⟨bw, 0, none⟩) n.path.length cap]) (RowO.frame hA1) rfl (CanRead.of_own (e := 26) (b := b48) (cs := [.slice (some ⟨bw, 0, none⟩) n.path.length cap]) (n := 1) (List.mem_append_right _ (.head _)) rfl rfl) (by simp [Value.oneCell']) (by simp only [maxLen]; omega) (by omega) (fun v5 L5 hro5 _ => ?_))
      obtain ⟨R1', rfl, hR1'⟩ := RowO.unframe hro5
      obtain ⟨va5, vc5, rfl⟩ := hR1'.is_slice
      simp (disch := omega) only [push_cast, Nat.reduceEqDiff, e3, e4, e5, e6, e7, e8]
      refine storeX_weak (L' := oFd b10 n.f fa fc :: (lr, Obj.loop bz) :: (d, Obj.deferred (some [])) :: oV b8 (i64 ((cntP ns k : Nat))) 3 :: oV b7 (.slice va2 k vc2) 22 :: oV b6 (.slice va1 k vc1) 45 :: oV b5 (.func (.func 40) #[] #[.pointer (some ⟨bk, 0, none⟩)]) 32 :: oV b4 (.bool false) 4 :: oV b3 (.slice (some ⟨vb, 0, none⟩) ns.length vc) 28 :: oS b2 a l c na nt nc :: (R1' ++ (R2 ++ T1))) (fun w hw => (hw.perm (List.perm_append_comm_assoc R1' [_, _, _, _, _, _, _, _, _, _, _] (R2 ++ T1))).left (A := [_]) (fun p hp => by rw [List.mem_singleton.1 hp]; exact hb48)) (storeX 5 rfl Siz.eq rfl rfl (by simp [Value.oneCell']) (by simp) ?_)
      simp (disch := omega) only [push_cast, Nat.reduceEqDiff, e3, e4, e5, e6, e7, e8]
      have hR1n := hR1'.new (by simp)
      have hT3n : ∀ p ∈ R1' ++ (R2 ++ T1), w.heap.size ≤ p.1 := fun p hp => by
        rcases List.mem_append.1 hp with hp | hp
        · exact hR1n p hp
        · exact hT2n p hp
      refine forgetS (fun e => e 3 = .pointer (some ⟨b3, 0, none⟩) ∧ e 5 = .pointer (some ⟨b5, 0, none⟩) ∧ e 6 = .pointer (some ⟨b6, 0, none⟩) ∧ e 7 = .pointer (some ⟨b7, 0, none⟩) ∧ e 8 = .pointer (some ⟨b8, 0, none⟩) ∧ e 10 = .pointer (some ⟨b10, 0, none⟩)) ⟨e3, e5, e6, e7, e8, rfl⟩ ?_
      clear e3 e4 e5 e6 e7 e8 e26 htm e
      rintro e ⟨e3, e5, e6, e7, e8, e10⟩
      have hLZn := hout (Obj.cells #[str n.f.nm, .bool n.f.nl, i64 n.f.k, i64 n.f.wd, i64 n.f.id, i64 n.f.ix, .slice fa n.f.sub.length fc] 38 (0, 0)) (Obj.loop bz) (.slice va2 k vc2) (.slice va5 (k + 1) vc5) (cntP ns k : Nat) _ hT3n
      obtain ⟨REST, hREST⟩ : ∃ REST : Own, REST = oFd b10 n.f fa fc :: (lr, Obj.loop bz) :: (d, Obj.deferred (some [])) :: oV b8 (i64 ((cntP ns k : Nat))) 3 :: oV b6 (.slice va5 (k + 1) vc5) 45 :: oV b5 (.func (.func 40) #[] #[.pointer (some ⟨bk, 0, none⟩)]) 32 :: oV b4 (.bool false) 4 :: oV b3 (.slice (some ⟨vb, 0, none⟩) ns.length vc) 28 :: oS b2 a l c na nt nc :: (R1' ++ T1) := ⟨_, rfl⟩
      have hnd10 : (([oFd b10 n.f fa fc] : Own).map (·.1)).Nodup := by simp
      have hm10 : ∀ L, (∃ X Y, L = X ++ oFd b10 n.f fa fc :: Y) → oFd b10 n.f fa fc ∈ L := fun L ⟨X, Y, h⟩ => by rw [h]; exact List.mem_append_right _ (.head _)
      have hRESTn : ∀ p ∈ REST, w.heap.size ≤ p.1 := fun p hp => by
        refine hLZn p ?_
        rw [hREST] at hp
        simp only [List.mem_cons, List.mem_append] at hp ⊢
        rcases hp with hp | hp | hp | hp | hp | hp | hp | hp | hp | hp | hp
        · exact .inl hp
        · exact .inr (.inl hp)
        · exact .inr (.inr (.inl hp))
        · exact .inr (.inr (.inr (.inl hp)))
        · exact .inr (.inr (.inr (.inr (.inr (.inl hp)))))
        · exact .inr (.inr (.inr (.inr (.inr (.inr (.inl hp))))))
        · exact .inr (.inr (.inr (.inr (.inr (.inr (.inr (.inl hp)))))))
        · exact .inr (.inr (.inr (.inr (.inr (.inr (.inr (.inr (.inl hp))))))))
        · exact .inr (.inr (.inr (.inr (.inr (.inr (.inr (.inr (.inr (.inl hp)))))))))
        · exact .inr (.inr (.inr (.inr (.inr (.inr (.inr (.inr (.inr (.inr (.inl hp))))))))))
        · exact .inr (.inr (.inr (.inr (.inr (.inr (.inr (.inr (.inr (.inr (.inr (.inr hp)))))))))))
      obtain ⟨LZ, hLZ⟩ : ∃ LZ : Own, LZ = oFd b10 n.f fa fc :: (lr, Obj.loop bz) :: (d, Obj.deferred (some [])) :: oV b8 (i64 ((cntP ns k : Nat))) 3 :: oV b7 (.slice va2 k vc2) 22 :: oV b6 (.slice va5 (k + 1) vc5) 45 :: oV b5 (.func (.func 40) #[] #[.pointer (some ⟨bk, 0, none⟩)]) 32 :: oV b4 (.bool false) 4 :: oV b3 (.slice (some ⟨vb, 0, none⟩) ns.length vc) 28 :: oS b2 a l c na nt nc :: (R1' ++ (R2 ++ T1)) := ⟨_, rfl⟩
      rw [← hLZ] at hLZn
      have hgetO : ∀ D e ds L, AgR w LZ REST n fa fc its k (.slice va2 k vc2) b3 b5 b6 b7 b8 D e ds L → Stab w L [oFd b10 n.f fa fc] := fun D e ds L hI => by
        rcases hI.o with ⟨_, _, rfl⟩ | ⟨_, _, b, hb, rfl, _⟩ | ⟨_, _, _, _, rb, rcap, cs', hrb, _, _, _, _, _, _, rfl⟩
        · exact Stab.of_mem (fun p hp => by rw [List.mem_singleton.1 hp, hLZ]; exact .head _) hnd10 hLZn
        · refine Stab.of_mem (fun p hp => by rw [List.mem_singleton.1 hp, hLZ]; exact .tail _ (.head _)) hnd10 (fun p hp => ?_)
          rcases List.mem_cons.1 hp with rfl | hp
          · exact hb
          · exact hLZn p hp
        · refine Stab.of_mem (fun p hp => by rw [List.mem_singleton.1 hp, hREST]; exact .tail _ (.tail _ (.head _))) hnd10 (fun p hp => ?_)
          rcases List.mem_cons.1 hp with rfl | hp
          · exact hrb
          rcases List.mem_cons.1 hp with rfl | hp
          · exact hb7
          · exact hRESTn p hp
      refine semT_ownA hLZ ?_
      refine freeIT [1] [0, 2, 3, 4, 5, 6, 7] [(0, []), (2, [0]), (3, []), (4, [0, 2, 3]), (5, [4]), (6, [5, 4]), (7, [4])] [oFd b10 n.f fa fc] (AgR w LZ REST n fa fc its k (.slice va2 k vc2) b3 b5 b6 b7 b8) (by kernel_rfl) mixed (by kernel_rfl) (by kernel_rfl) hgetO ?_ ?_ (Stab.of_mem (fun p hp => by rw [List.mem_singleton.1 hp, hLZ]; exact .head _) hnd10 hLZn) ?_
      · intro p hp D e ds L hD hdep hI
        obtain ⟨rfl, h3, h5, h6, h7, h8, h51, ho, d0, d2, dq⟩ := hI
        simp only [List.mem_cons, List.mem_nil_iff, or_false] at hp
        rcases hp with rfl | rfl | rfl | rfl | rfl | rfl | rfl
        all_goals simp only [List.mem_cons, List.mem_nil_iff, or_false, forall_eq_or_imp, forall_eq, false_implies, implies_true] at hD hdep
        · -- 0: the list is read
          have hl0 : oV b7 (.slice va2 k vc2) 22 ∈ L := by
            rcases ho with ⟨_, _, rfl⟩ | ⟨_, _, b, hb, rfl, _⟩ | ⟨_, _, q, _⟩
            · rw [hLZ]; exact mem4
            · rw [hLZ]; exact mem5
            · rw [hD] at q; cases q
          simp (disch := omega) only [push_cast, Nat.reduceEqDiff, h7]
          refine ldOne Shp.eq hl0 rfl ?_
          simp (disch := omega) only [push_cast, Nat.reduceEqDiff]
          exact ⟨_, fun w hw => hw, rfl, (by simpa [upd] using h3), (by simpa [upd] using h5), (by simpa [upd] using h6), (by simpa [upd] using h7), (by simpa [upd] using h8), (by simpa [upd] using h51), (by
            rcases ho with ⟨q1, q2, q3⟩ | ⟨q1, q2, q3⟩ | ⟨_, _, q, _⟩
            · exact .inl ⟨by simpa using q1, by simpa using q2, q3⟩
            · exact .inr (.inl ⟨by simpa using q1, by simpa using q2, by simpa [upd] using q3⟩)
            · rw [hD] at q; cases q), (fun _ => by simp [upd]), (fun h => by simpa [upd] using d2 (by simpa using h)), (fun h => by simpa using dq (by simpa using h))⟩
        · -- 2: its length
          have h50 := d0 hdep
          simp (disch := omega) only [push_cast, Nat.reduceEqDiff, h50]
          exact ⟨_, fun w hw => hw, rfl, (by simpa [upd] using h3), (by simpa [upd] using h5), (by simpa [upd] using h6), (by simpa [upd] using h7), (by simpa [upd] using h8), (by simpa [upd] using h51), (by
            rcases ho with ⟨q1, q2, q3⟩ | ⟨q1, q2, q3⟩ | ⟨_, _, _, q, _⟩
            · exact .inl ⟨by simpa using q1, by simpa using q2, q3⟩
            · exact .inr (.inl ⟨by simpa using q1, by simpa using q2, by simpa [upd] using q3⟩)
            · rw [hD] at q; cases q), (fun h => by simpa [upd] using d0 (by simpa using h)), (fun _ => by simp [upd]), (fun h => by simpa using dq (by simpa using h))⟩
        · -- 3: new memory
          rcases ho with ⟨q1, q2, rfl⟩ | ⟨q, _⟩ | ⟨q, _⟩
          rotate_left
          · rw [hD] at q; cases q
          · rw [hD] at q; cases q
          simp (disch := omega) only [push_cast, Nat.reduceEqDiff]
          refine bs_22_1 (newI fun b hb hn => ?_)
          simp (disch := omega) only [push_cast, Nat.reduceEqDiff]
          exact ⟨_, fun w hw => hw, rfl, (by simpa [upd] using h3), (by simpa [upd] using h5), (by simpa [upd] using h6), (by simpa [upd] using h7), (by simpa [upd] using h8), (by simpa [upd] using h51), .inr (.inl ⟨by simp, by simpa using q2, b, hb, rfl, by simp [upd]⟩), (fun h => by simpa [upd] using d0 (by simpa using h)), (fun h => by simpa [upd] using d2 (by simpa using h)), (fun h => by simpa using dq (by simpa using h))⟩
        · -- 4: append
          rcases ho with ⟨q, _⟩ | ⟨q1, q2, b, hb, rfl, h53⟩ | ⟨_, q, _⟩
          · rw [hdep.2.2] at q; cases q
          rotate_left
          · rw [hD] at q; cases q
          have h50 := d0 hdep.1
          simp (disch := omega) only [push_cast, Nat.reduceEqDiff, h50, h53]
          have hA2 := hA.h2
          rw [hLZ]
          refine valX_weak (L' := R2 ++ ((b, Obj.cells #[str [], .bool false, i64 0, i64 0, i64 0, i64 0, .slice none 0 0] 38 (0, 0)) :: oFd b10 n.f fa fc :: (lr, Obj.loop bz) :: (d, Obj.deferred (some [])) :: oV b8 (i64 ((cntP ns k : Nat))) 3 :: oV b7 (.slice va2 k vc2) 22 :: oV b6 (.slice va5 (k + 1) vc5) 45 :: oV b5 (.func (.func 40) #[] #[.pointer (some ⟨bk, 0, none⟩)]) 32 :: oV b4 (.bool false) 4 :: oV b3 (.slice (some ⟨vb, 0, none⟩) ns.length vc) 28 :: oS b2 a l c na nt nc :: (R1' ++ T1))) (fun w hw => hw.perm ((List.Perm.append_left [_, _, _, _, _, _, _, _, _, _, _] (List.perm_append_comm_assoc R1' R2 T1)).trans (List.perm_append_comm_assoc [_, _, _, _, _, _, _, _, _, _, _] R2 (R1' ++ T1)))) (appendI un_22 infoFldC rfl (m := 1) (news := [str [], .bool false, i64 0, i64 0, i64 0, i64 0, .slice none 0 0]) (RowO.frame hA2) rfl (CanRead.of_own (e := 38) (b := b) (cs := [str [], .bool false, i64 0, i64 0, i64 0, i64 0, .slice none 0 0]) (n := 7) (List.mem_append_right _ (.head _)) rfl rfl) (by simp [Value.oneCell']) (by simp only [maxLen]; omega) (by omega) (fun v7 L7 hro7 _ => ?_))
          obtain ⟨z0, ⟨_, z1, _⟩ | ⟨rb, rcap, cs', rfl, rfl, hrb, z2, z3, z4, z5⟩⟩ := hro7
          · omega
          simp (disch := omega) only [push_cast, Nat.reduceEqDiff]
          refine ⟨(rb, Obj.cells cs'.toArray 38 (0, 0)) :: oV b7 (.slice va2 k vc2) 22 :: REST, fun w hw => ?_, rfl, (by simpa [upd] using h3), (by simpa [upd] using h5), (by simpa [upd] using h6), (by simpa [upd] using h7), (by simpa [upd] using h8), (by simpa [upd] using h51), .inr (.inr ⟨by simpa using q1, by simp, by simpa using hdep.1, by simpa using hdep.2.1, rb, rcap, cs', hrb, z2, z3, z4, z5, by simp [upd], (fun h => ?_), ?_⟩), (fun h => by simpa [upd] using d0 (by simpa using h)), (fun h => by simpa [upd] using d2 (by simpa using h)), (fun h => by simp at h)⟩
          · rw [hREST]
            exact (hw.mid [_] [_] (fun p hp => by rw [List.mem_singleton.1 hp]; exact hb)).perm (List.Perm.cons _ (List.perm_middle (l₁ := [_, _, _, _])))
          · have := (dq q2).1
            simp [this] at h
          · simp [(dq q2).2.1, (dq q2).2.2]
        · -- 5: the place
          rcases ho with ⟨_, q, _⟩ | ⟨_, q, _⟩ | ⟨q1, q2, q3, q4, rb, rcap, cs', hrb, z2, z3, z4, z5, h54, h55, rfl⟩
          · rw [hdep] at q; cases q
          · rw [hdep] at q; cases q
          have h52 := d2 q4
          simp (disch := omega) only [push_cast, Nat.reduceEqDiff, h52, h54]
          exact ⟨_, fun w hw => hw, rfl, (by simpa [upd] using h3), (by simpa [upd] using h5), (by simpa [upd] using h6), (by simpa [upd] using h7), (by simpa [upd] using h8), (by simpa [upd] using h51), .inr (.inr ⟨by simpa using q1, by simpa using q2, by simpa using q3, by simpa using q4, rb, rcap, cs', hrb, z2, z3, z4, z5, by simpa [upd] using h54, (fun _ => by simp [upd]), by simp [splice]⟩), (fun h => by simpa [upd] using d0 (by simpa using h)), (fun h => by simpa [upd] using d2 (by simpa using h)), (fun h => by simp [q2] at h)⟩
        · -- 6: the field is put there
          rcases ho with ⟨_, q, _⟩ | ⟨_, q, _⟩ | ⟨q1, q2, q3, q4, rb, rcap, cs', hrb, z2, z3, z4, z5, h54, h55, hLe⟩
          · rw [hdep.2] at q; cases q
          · rw [hdep.2] at q; cases q
          rw [if_neg (by rw [hD]; simp)] at hLe
          subst hLe
          have h55' := h55 hdep.1
          simp (disch := omega) only [push_cast, Nat.reduceEqDiff, h51, h55']
          refine storeX 0 rfl Siz.eq rfl rfl (by simp [Value.oneCell']) (by omega) ?_
          rw [List.set_cons_zero]
          simp (disch := omega) only [push_cast, Nat.reduceEqDiff]
          exact ⟨_, fun w hw => hw, rfl, (by simpa [upd] using h3), (by simpa [upd] using h5), (by simpa [upd] using h6), (by simpa [upd] using h7), (by simpa [upd] using h8), (by simpa [upd] using h51), .inr (.inr ⟨by simpa using q1, by simpa using q2, by simpa using q3, by simpa using q4, rb, rcap, cs', hrb, z2, z3, z4, z5, by simpa [upd] using h54, (fun _ => by simpa [upd] using h55'), by simp [splice]⟩), (fun h => by simpa [upd] using d0 (by simpa using h)), (fun h => by simpa [upd] using d2 (by simpa using h)), (fun h => by simp [q2] at h)⟩
        · -- 7: the list is told
          rcases ho with ⟨_, q, _⟩ | ⟨_, q, _⟩ | ⟨q1, q2, q3, q4, rb, rcap, cs', hrb, z2, z3, z4, z5, h54, h55, hLe⟩
          · rw [hdep] at q; cases q
          · rw [hdep] at q; cases q
          rw [if_neg (c := D 7 = true) (by rw [hD]; simp)] at hLe
          subst hLe
          simp (disch := omega) only [push_cast, Nat.reduceEqDiff, h7, h54]
          refine storeX 1 rfl Siz.eq rfl rfl (by simp [Value.oneCell']) (by simp) ?_
          simp (disch := omega) only [push_cast, Nat.reduceEqDiff]
          exact ⟨_, fun w hw => hw, rfl, (by simpa [upd] using h3), (by simpa [upd] using h5), (by simpa [upd] using h6), (by simpa [upd] using h7), (by simpa [upd] using h8), (by simpa [upd] using h51), .inr (.inr ⟨by simpa using q1, by simpa using q2, by simpa using q3, by simpa using q4, rb, rcap, cs', hrb, z2, z3, z4, z5, by simpa [upd] using h54, (fun h => by simpa [upd] using h55 (by simpa using h)), by simp [splice]⟩), (fun h => by simpa [upd] using d0 (by simpa using h)), (fun h => by simpa [upd] using d2 (by simpa using h)), (fun h => by simp [q2] at h)⟩
      · intro D e ds L hD hI
        obtain ⟨rfl, h3, h5, h6, h7, h8, h51, ho, d0, d2, dq⟩ := hI
        rcases ho with ⟨_, q, _⟩ | ⟨_, q, _⟩ | ⟨q1, q2, q3, q4, rb, rcap, cs', hrb, z2, z3, z4, z5, h54, h55, hLe⟩
        · rw [hD 4 (by simp)] at q; cases q
        · rw [hD 4 (by simp)] at q; cases q
        rw [if_pos (hD 6 (by simp)), if_pos (hD 7 (by simp))] at hLe
        subst hLe
        clear d0 d2 dq h51 h54 h55 hD q1 q2 q3 q4 hgetO
        rw [hREST]
        simp (disch := omega) only [push_cast, Nat.reduceEqDiff, h3, h5, h6, h7, h8]
        refine ldOne Shp.eq mem6 rfl ?_
        simp (disch := omega) only [push_cast, Nat.reduceEqDiff, h3, h5, h6, h7, h8]
        have hnK : ∀ p ∈ (bw, Obj.cells cs.toArray 3 (0, 0)) :: K, w.heap.size ≤ p.1 := fun p hp => hNM p (List.mem_append_left _ hp)
        have hAg := hA.snoc hkn hpc hcm hcl hct hF hnK hR1' (z := [str [], .bool false, i64 0, i64 0, i64 0, i64 0, .slice none 0 0]) rfl hrb z2 z3 z4 z5
        have hE : ownI (its ++ [⟨toInts n.path, n.f, bw, cap, cs, K, fa, fc⟩]) ++ Mx = ownI its ++ (((bw, Obj.cells cs.toArray 3 (0, 0)) :: K) ++ Mx) := by rw [ownI_append, ownI_one, List.append_assoc]; rfl
        have h9 : ∀ (x : Nat × Obj) (X : Own), R1' ++ (x :: (X ++ Mx)) = (R1' ++ ([x] ++ X)) ++ Mx := fun x X => by simp
        rw [V_cond]
        simp (disch := omega) only [push_cast, Nat.reduceEqDiff, h3, h5, h6, h7, h8]
        refine condX_d (fun hk3 => ?_) (fun hk3 => ?_)
        · obtain rfl : k = 2 := by omega
          simp (disch := omega) only [push_cast, Nat.reduceEqDiff, h3, h5, h6, h7, h8]
          refine ldOne Shp.eq mem7 rfl ?_
          simp (disch := omega) only [push_cast, Nat.reduceEqDiff, h3, h5, h6, h7, h8]
          rw [V_block]
          simp (disch := omega) only [push_cast, Nat.reduceEqDiff, h3, h5, h6, h7, h8]
          refine rangeZ rfl mem3 (by simp (disch := omega) only [push_cast, Nat.reduceEqDiff, h3, h5, h6, h7, h8]; rfl) en_40 (fun fn2 tm2 l2 rec2 hrec2 htm2 hl2 hln2 w3 hw3' => ?_)
          have hc0 : cntP ns 2 = 0 := by simp [cntP]
          have hc3 : cntP ns 3 = ns.length := by simp [cntP]
          obtain ⟨M', hM'⟩ : ∃ M' : Own, M' = (rb, Obj.cells (splice cs' (2 * 7) (n.f.cells fa fc)).toArray 38 (0, 0)) :: oV b7 (.slice (some ⟨rb, 0, none⟩) (2 + 1) rcap) 22 :: oFd b10 n.f fa fc :: (lr, Obj.loop bz) :: (d, Obj.deferred (some [])) :: oV b6 (.slice va5 (2 + 1) vc5) 45 :: oV b5 (.func (.func 40) #[] #[.pointer (some ⟨bk, 0, none⟩)]) 32 :: oV b4 (.bool false) 4 :: oV b3 (.slice (some ⟨vb, 0, none⟩) ns.length vc) 28 :: oS b2 a l c na nt nc :: (R1' ++ T1) := ⟨_, rfl⟩
          have hM'n : ∀ p ∈ M', w.heap.size ≤ p.1 := fun p hp => by
            rw [hM'] at hp
            simp only [List.mem_cons] at hp
            rcases hp with rfl | rfl | rfl | rfl | rfl | hp
            · exact hrb
            · exact hb7
            · exact hb10
            · exact hlr
            · exact hd
            refine hRESTn p ?_
            rw [hREST]
            simp only [List.mem_cons]
            rcases hp with hp | hp | hp | hp | hp | hp
            · exact .inr (.inr (.inr (.inr (.inl hp))))
            · exact .inr (.inr (.inr (.inr (.inr (.inl hp)))))
            · exact .inr (.inr (.inr (.inr (.inr (.inr (.inl hp))))))
            · exact .inr (.inr (.inr (.inr (.inr (.inr (.inr (.inl hp)))))))
            · exact .inr (.inr (.inr (.inr (.inr (.inr (.inr (.inr (.inl hp))))))))
            · exact .inr (.inr (.inr (.inr (.inr (.inr (.inr (.inr (.inr hp))))))))
          have hMM' : ∀ p ∈ M, p ∈ M' := fun p hp => by
            rw [hM', hT1]
            have := hM0 p hp
            simp [this]
          refine (owalk1_walk w [oV b3 (.slice (some ⟨vb, 0, none⟩) ns.length vc) 28] ns
            (fun j C => j ≤ ns.length ∧ C = [(l2, Obj.loop rec2), oV b8 (i64 (j : Nat)) 3])
            (fun j C => False) (.func (.yield l2) #[] #[]) rfl rfl ⟨(by intro g f c h; cases h), ?_, (fun k C h => h.elim), ?_⟩ w3 [(l2, Obj.loop rec2), oV b8 (i64 0) 3] M' bk l ka kc
            (hw3'.perm ?_) ⟨Nat.zero_le _, rfl⟩ hM'n (by rw [hM']; simp) (hMM' _ hbk) (hrx.mono fun w hw p hp => hw p (hMM' p hp)) hkc hkc2 hokn hnd).mono ?_
          · rintro j C ⟨_, rfl⟩ p hp
            simp only [List.mem_cons, List.mem_nil_iff, or_false] at hp
            rcases hp with rfl | rfl
            · exact hl2
            · exact hb8
          · rintro j m hjm C K' M2 bw' cap' ct' fa' fc' ⟨hj, rfl⟩ hpc' hcm' hcl' hct' hF' hpl' hN' hM2 w4 hw4
            have hjlt : j < ns.length := (List.getElem?_eq_some_iff.1 hjm).1
            have hb3m := hM2 _ (.head _)
            subst hrec2
            refine roundX (i := 0) rfl htm2 rfl (by simp) (by kernel_rfl) (by kernel_rfl) ?_ w4 hw4
            simp (disch := omega) only [push_cast, Nat.reduceEqDiff, h3, h5, h6, h7, h8, Fld.cells]
            refine ⟨0, rfl, ?_⟩
            simp (disch := omega) only [push_cast, Nat.reduceEqDiff, h3, h5, h6, h7, h8]
            refine own_gen0 (fun bz2 hbz2 => ?_)
            rw [V_block]
            simp (disch := omega) only [push_cast, Nat.reduceEqDiff, h3, h5, h6, h7, h8]
            refine ldOne Shp.eq mem1 rfl ?_
            simp (disch := omega) only [push_cast, Nat.reduceEqDiff, h3, h5, h6, h7, h8]
            refine storeX 1 rfl Siz.eq rfl rfl (by simp [Value.oneCell']) (by simp) ?_
            simp (disch := omega) only [push_cast, Nat.reduceEqDiff, h3, h5, h6, h7, h8]
            refine ldOne Shp.eq mem1 rfl ?_
            simp (disch := omega) only [push_cast, Nat.reduceEqDiff, h3, h5, h6, h7, h8]
            refine ldOne (b := b3) (cs := [.slice (some ⟨vb, 0, none⟩) ns.length vc]) (ty := 28) (fr := (0, 0)) Shp.eq (.tail _ (.tail _ (.tail _ (List.mem_append_right _ hb3m)))) rfl ?_
            simp (disch := omega) only [push_cast, Nat.reduceEqDiff, h3, h5, h6, h7, h8]
            rw [V_cond]
            simp (disch := omega) only [push_cast, Nat.reduceEqDiff, h3, h5, h6, h7, h8]
            refine condX_d (fun h => by exfalso; omega) (fun _ => ?_)
            simp (disch := omega) only [push_cast, Nat.reduceEqDiff, h3, h5, h6, h7, h8]
            subst hbz2
            exact ⟨0, _, rfl, fun w5 hw5 => .inl ⟨rfl, _, ⟨by omega, rfl⟩, by
              have := hw5.mid [_, _] ((bw', Obj.cells ct'.toArray 3 (0, 0)) :: K') (fun p hp => hN' p (List.mem_append_left _ hp))
              simpa using this⟩⟩
          · rw [hM']
            exact List.Perm.cons _ (List.perm_middle (l₁ := [_, _, _, _, _]))
          · rintro e5 w5 ⟨rfl, ⟨C', ⟨_, rfl⟩, hw5⟩ | ⟨j, C', h, _⟩⟩
            rotate_left
            · exact h.elim
            subst hrec2
            refine ⟨w, _, 0, _, rfl, (by simp), hw5, ?_⟩
            rw [hM']
            simp (disch := omega) only [push_cast, Nat.reduceEqDiff, h3, h5, h6, h7, h8]
            subst hbz
            refine ⟨5, _, rfl, fun w6 hw6 => .inl ⟨rfl, _, ⟨_, R1', _, _, _, hAg, rfl⟩, ?_⟩⟩
            have hw7 := tidyB (Z := [_, _, _, _, _]) (R := R1') (T := T1) hw6 hb10 hl2
            rw [hT1, ← hE, h9] at hw7
            rw [hc3]
            exact hw7
        · simp (disch := omega) only [push_cast, Nat.reduceEqDiff, h3, h5, h6, h7, h8]
          have hcnt : cntP ns k = cntP ns (k + 1) := by unfold cntP; by_cases hx : 3 ≤ k <;> simp [hx] <;> omega
          subst hbz
          refine ⟨3, _, rfl, fun w4 hw4 => .inl ⟨rfl, _, ⟨_, R1', _, _, _, hAg, rfl⟩, ?_⟩⟩
          have hw5 := tidyA (Z := [_, _, _, _, _]) (R := R1') (T := T1) hw4 hb10
          rw [hT1, hcnt, ← hE, h9] at hw5
          exact hw5
      · simp (disch := omega) only [push_cast, Nat.reduceEqDiff, e10]
        refine loadX_agg Shp.eq mem0 rfl rfl ?_
        simp (disch := omega) only [push_cast, Nat.reduceEqDiff]
        exact ⟨rfl, (by simpa [upd] using e3), (by simpa [upd] using e5), (by simpa [upd] using e6), (by simpa [upd] using e7), (by simpa [upd] using e8), by simp [upd], .inl ⟨by simp, by simp, rfl⟩, (fun h => by simp at h), (fun h => by simp at h), (fun _ => by simp)⟩
    · refine List.Perm.cons _ (List.Perm.cons _ (List.Perm.cons _ (List.Perm.cons _ ?_)))
      refine ((List.perm_middle (l₁ := [_, _, _, _, _, _]) (l₂ := M)).symm).trans ?_
      refine List.Perm.cons _ ?_
      refine ((List.perm_middle (l₁ := [_, _, _, _]) (l₂ := _ :: M)).symm).trans ?_
      exact List.Perm.refl _
    · rintro e5 w5 ⟨rfl, ⟨C', ⟨its, R1, R2, vw, vf, hA, rfl⟩, hw5⟩ | ⟨j, C', h, _⟩⟩
      rotate_left
      · exact h.elim
      subst hrec
      refine ⟨w, _, 0, _, rfl, (by simp), hw5.drop (List.sublist_append_left _ M) (fun p hp => by
        rcases List.mem_append.1 hp with hp | hp
        · exact .inl hp
        · exact .inr (hM p hp)), ?_⟩
      simp (disch := omega) only [push_cast, Nat.reduceEqDiff]
      exact ⟨rfl, ⟨d, lr, _, its, R1, R2, vw, vf, hd, hlr, rfl, hA, rfl⟩, e3, e4, e6, e7, e8⟩
  rintro wb e ds L ⟨rfl, ⟨d, lr, x, its, R1, R2, vw, vf, hd, hlr, rfl, hA, rfl⟩, e3, e4, e6, e7, e8⟩
  obtain ⟨va1, vc1, rfl⟩ := hA.h1.is_slice
  obtain ⟨va2, vc2, rfl⟩ := hA.h2.is_slice
  obtain ⟨vb, hva, hvb, hwn⟩ : ∃ b, va = some ⟨b, 0, none⟩ ∧ b < lo ∧ ∀ i x, ns[i]? = some x → ∃ pb fa fc, At wb b (i * 10) [.slice (some ⟨pb, 0, none⟩) x.path.length x.path.length] ∧ At wb b (i * 10 + 1) (x.f.cells fa fc) ∧ pb < lo ∧ At wb pb 0 (ints x.path) ∧ Rd wb lo fa x.f.sub ∧ x.f.sub.length ≤ fc ∧ fc ≤ 9223372036854775807 ∧ x.f.nm.length ≤ 9223372036854775807 := by
    rcases hwa with h | h
    · rw [h] at hn0; simp at hn0
    · exact h
  simp (disch := omega) only [push_cast, Nat.reduceEqDiff, e3, e4, e6, e7, e8]
  refine ldOne Shp.eq mem4 rfl ?_
  simp (disch := omega) only [push_cast, Nat.reduceEqDiff, e3, e4, e6, e7, e8]
  refine ldOne Shp.eq mem7 rfl ?_
  simp (disch := omega) only [push_cast, Nat.reduceEqDiff, e3, e4, e6, e7, e8, ne_eq, not_true_eq_false, decide_false]
  refine ldOne Shp.eq mem7 rfl ?_
  simp (disch := omega) only [push_cast, Nat.reduceEqDiff, e3, e4, e6, e7, e8]
  refine shareVA (c := ?zc) (code := ?zcode) (Q := ?zQ) (wb := ?zwb) (ds := ?zds) (L := ?zL) (fun e => e 3 = .pointer (some ⟨b3, 0, none⟩) ∧ e 4 = .pointer (some ⟨b4, 0, none⟩) ∧ e 6 = .pointer (some ⟨b6, 0, none⟩) ∧ e 7 = .pointer (some ⟨b7, 0, none⟩) ∧ e 83 = .bool false) (fun tail => ?br) ?lt
  case br =>
    refine guardX_t rfl (fun h3n => ?_) (fun h3n => ?_)
    · have hc3 : cntP ns ns.length = ns.length := by unfold cntP; rw [if_pos (by omega)]
      simp (disch := omega) only [push_cast, Nat.reduceEqDiff, e3, e4, e6, e7, e8]
      refine ldOne Shp.eq mem2 rfl ?_
      simp (disch := omega) only [push_cast, Nat.reduceEqDiff, e3, e4, e6, e7, e8]
      refine ldOne Shp.eq mem7 rfl ?_
      simp (disch := omega) only [push_cast, Nat.reduceEqDiff, e3, e4, e6, e7, e8]
      refine tail _ ?_
      exact ⟨e3, e4, e6, e7, by simp [upd, hc3]⟩
    · simp (disch := omega) only [push_cast, Nat.reduceEqDiff, e3, e4, e6, e7, e8]
      refine tail _ ?_
      exact ⟨e3, e4, e6, e7, rfl⟩
  case lt =>
    clear e3 e4 e6 e7 e8 e
    rintro e ⟨e3, e4, e6, e7, e83⟩
    rw [V_cond]
    simp (disch := omega) only [push_cast, Nat.reduceEqDiff, e3, e4, e6, e7, e83]
    refine ldOne Shp.eq mem4 rfl ?_
    simp (disch := omega) only [push_cast, Nat.reduceEqDiff, e3, e4, e6, e7]
    obtain ⟨rwb, wcap, csw, hvw, hR1, hrwb, hwc1, hwc2, hwc3, hwc4⟩ := hA.h1.some_of (by omega)
    injection hvw with hvw1 hvw2 hvw3
    subst hvw1
    subst hvw3
    subst hR1
    obtain ⟨rfb, fcap, csf, hvf, hR2, hrfb, hfc1, hfc2, hfc3, hfc4⟩ := hA.h2.some_of (by omega)
    injection hvf with hvf1 hvf2 hvf3
    subst hvf1
    subst hvf3
    subst hR2
    obtain ⟨HD, hHD⟩ : ∃ HD : Own, HD = (lr, x) :: (d, Obj.deferred (some [])) :: oV b8 (i64 ((cntP ns ns.length : Nat))) 3 :: oV b7 (.slice (some ⟨rfb, 0, none⟩) ns.length vc2) 22 :: oV b6 (.slice (some ⟨rwb, 0, none⟩) ns.length vc1) 45 :: oV b5 (.func (.func 40) #[] #[.pointer (some ⟨bk, 0, none⟩)]) 32 :: oV b4 (.bool false) 4 :: oV b3 (.slice va ns.length vc) 28 :: oS b2 a l c na nt nc :: [(rwb, Obj.cells csw.toArray 26 (0, 0)), (rfb, Obj.cells csf.toArray 38 (0, 0))] := ⟨_, rfl⟩
    have hm7 : oV b7 (.slice (some ⟨rfb, 0, none⟩) ns.length vc2) 22 ∈ HD := by rw [hHD]; simp
    have hm6 : oV b6 (.slice (some ⟨rwb, 0, none⟩) ns.length vc1) 45 ∈ HD := by rw [hHD]; simp
    have hm4 : oV b4 (.bool false) 4 ∈ HD := by rw [hHD]; simp
    have hm3 : oV b3 (.slice va ns.length vc) 28 ∈ HD := by rw [hHD]; simp
    have hmw : (rwb, Obj.cells csw.toArray 26 (0, 0)) ∈ HD := by rw [hHD]; simp
    have hmf : (rfb, Obj.cells csf.toArray 38 (0, 0)) ∈ HD := by rw [hHD]; simp
    have hHDn : ∀ p ∈ HD, wb.heap.size ≤ p.1 := fun p hp => by
      rw [hHD] at hp
      simp only [List.mem_cons, List.mem_nil_iff, or_false] at hp
      rcases hp with rfl | rfl | rfl | rfl | rfl | rfl | rfl | rfl | rfl | rfl | rfl
      · exact hlr
      · exact hd
      · exact hb8
      · exact hb7
      · exact hb6
      · exact hb5
      · exact hb4
      · exact hb3
      · exact hb2
      · exact hrwb
      · exact hrfb
    rw [V_block]
    simp (disch := omega) only [push_cast, Nat.reduceEqDiff, e3, e4, e6, e7]
    refine loopW (G := Nat) (L1I wb [{ target := .collected d, args := #[] }] HD ns (waysI its) (fldsI its) b3 b4 b6 b7) (fun i => ns.length - i) 0 (HD ++ ownI its) (fun w hw => by rw [hHD]; simpa using hw) (by kernel_rfl) ⟨rfl, rfl, ⟨its, rfl, hA.hl, rfl, rfl, fun j x hj => ⟨fun h => absurd h (by omega), fun _ => hA.ho j x hj⟩, hA.hn⟩, by omega, e3, e4, e6, e7, rfl, rfl⟩ ?_
    rintro i wb e ds L ⟨rfl, rfl, ⟨it, rfl, hil, hiw, hif, hi12, hin⟩, hi, h3, h4, h6, h7, h85, h86⟩
    simp (disch := omega) only [push_cast, Nat.reduceEqDiff, h3, h4, h6, h7, h85, h86, Nat.mul_one]
    rw [V_cond]
    simp (disch := omega) only [push_cast, Nat.reduceEqDiff, h3, h4, h6, h7, h85, h86, Nat.mul_one]
    refine condX_d (fun hlt => ?_) (fun hge => ?_)
    · obtain ⟨xi, hxi⟩ : ∃ xi, it[i]? = some xi := ⟨_, List.getElem?_eq_getElem (by omega)⟩
      obtain ⟨hxo, n, hn, hxp, hxf⟩ := (hi12 i xi hxi).2 (Nat.le_refl _)
      have hnm := List.mem_of_getElem? hn
      have hpl : xi.p.length ≤ xi.cap := hxo.h1
      have hcap : xi.cap ≤ 9223372036854775807 := hxo.h2
      have hwc : csw[i]? = some xi.way := by
        have q := ways_get hxi
        rw [hiw, ← hwc4, Nat.mul_one] at q
        rw [List.getElem?_take] at q
        split at q
        · exact q
        · cases q
      have hfc : ∀ k v, (xi.f.cells xi.fa xi.fc)[k]? = some v → csf[i * 7 + k]? = some v := fun k v h => by
        have q := flds_cell hxi h
        rw [hif, ← hfc4, List.getElem?_take] at q
        split at q
        · exact q
        · cases q
      obtain ⟨RR, hRR⟩ : ∃ RR : Own, RR = HD ++ (xi.K ++ (ownI (it.take i) ++ ownI (it.drop (i + 1)))) := ⟨_, rfl⟩
      have hRn : ∀ p ∈ RR, wb.heap.size ≤ p.1 := fun p hp => by
        rw [hRR] at hp
        rcases List.mem_append.1 hp with hp | hp
        · exact hHDn p hp
        · exact hin p ((own_at hxi).mem_iff.2 (by rw [It.own]; exact .tail _ hp))
      have hbwn : wb.heap.size ≤ xi.bw := hin _ ((own_at hxi).mem_iff.2 (by rw [It.own]; exact .head _))
      have hpm : ∀ cs : List Value, ((xi.bw, Obj.cells cs.toArray 3 (0, 0)) :: RR).Perm (HD ++ ((xi.bw, Obj.cells cs.toArray 3 (0, 0)) :: (xi.K ++ (ownI (it.take i) ++ ownI (it.drop (i + 1)))))) := fun cs => by rw [hRR]; exact List.perm_middle.symm
      have hm6' : oV b6 (.slice (some ⟨rwb, 0, none⟩) ns.length vc1) 45 ∈ RR := by rw [hRR]; exact List.mem_append_left _ hm6
      have hm7' : oV b7 (.slice (some ⟨rfb, 0, none⟩) ns.length vc2) 22 ∈ RR := by rw [hRR]; exact List.mem_append_left _ hm7
      have hmw' : (rwb, Obj.cells csw.toArray 26 (0, 0)) ∈ RR := by rw [hRR]; exact List.mem_append_left _ hmw
      have hmf' : (rfb, Obj.cells csf.toArray 38 (0, 0)) ∈ RR := by rw [hRR]; exact List.mem_append_left _ hmf
      simp (disch := omega) only [push_cast, Nat.reduceEqDiff, h3, h4, h6, h7, h85, h86, Nat.mul_one]
      rw [V_block]
      simp (disch := omega) only [push_cast, Nat.reduceEqDiff, h3, h4, h6, h7, h85, h86, Nat.mul_one]
      refine ldOne Shp.eq (List.mem_append_left _ hm6) rfl ?_
      simp (disch := omega) only [push_cast, Nat.reduceEqDiff, h3, h4, h6, h7, h85, h86, Nat.mul_one]
      refine ldOne Shp.eq (List.mem_append_left _ hmw) hwc ?_
      simp (disch := omega) only [push_cast, Nat.reduceEqDiff, h3, h4, h6, h7, h85, h86, It.way, Nat.mul_one]
      rw [V_block]
      simp (disch := omega) only [push_cast, Nat.reduceEqDiff, h3, h4, h6, h7, h85, h86, Nat.mul_one]
      refine loopW (G := Nat) (L2I wb [{ target := .collected d, args := #[] }] RR xi.p (1000 * ((i : Int) + 1)) xi.bw xi.cap ns.length i b3 b4 b6 b7) (fun k => xi.p.length - k) 0 ((xi.bw, Obj.cells xi.cs.toArray 3 (0, 0)) :: RR) (fun w hw => hw.perm (((List.Perm.append_left HD (own_at hxi)).trans (by rw [It.own]; exact (hpm xi.cs).symm)))) (by kernel_rfl) ⟨rfl, rfl, ⟨xi.cs, rfl, hxo.h3, by rw [addTo_zero]; exact hxo.h4⟩, by omega, h3, h4, h6, h7, h85, h86, rfl, rfl, rfl⟩ ?_
      rintro k wb e ds L ⟨rfl, rfl, ⟨cs, rfl, hcl, hct⟩, hk, k3, k4, k6, k7, k85, k86, k11, k93, k94⟩
      simp (disch := omega) only [push_cast, Nat.reduceEqDiff, k3, k4, k6, k7, k85, k86, k11, k93, k94, Nat.mul_one]
      rw [V_cond]
      simp (disch := omega) only [push_cast, Nat.reduceEqDiff, k3, k4, k6, k7, k85, k86, k11, k93, k94, Nat.mul_one]
      refine condX_d (fun hklt => ?_) (fun hkge => ?_)
      · refine Exists.elim (show ∃ v, xi.p[k]? = some v from ⟨_, List.getElem?_eq_getElem (by omega)⟩) (fun v hv => ?_)
        have hvb : 0 ≤ v ∧ v ≤ 32 := by
          rw [hxp] at hv
          exact Exists.elim (List.mem_map.1 (List.mem_of_getElem? hv)) (fun q hq => by have := hsmall n hnm q hq.1; have := hq.2; omega)
        simp (disch := omega) only [push_cast, Nat.reduceEqDiff, k3, k4, k6, k7, k85, k86, k11, k93, k94, Nat.mul_one]
        rw [V_block]
        simp (disch := omega) only [push_cast, Nat.reduceEqDiff, k3, k4, k6, k7, k85, k86, k11, k93, k94, Nat.mul_one]
        refine ldOne Shp.eq (.tail _ hm6') rfl ?_
        simp (disch := omega) only [push_cast, Nat.reduceEqDiff, k3, k4, k6, k7, k85, k86, k11, k93, k94, Nat.mul_one]
        refine ldOne Shp.eq (.tail _ hmw') hwc ?_
        simp (disch := omega) only [push_cast, Nat.reduceEqDiff, k3, k4, k6, k7, k85, k86, k11, k93, k94, It.way, Nat.mul_one]
        refine ldOne Shp.eq mem0 (addTo_cell hct hv) ?_
        simp (disch := omega) only [push_cast, Nat.reduceEqDiff, k3, k4, k6, k7, k85, k86, k11, k93, k94, Nat.mul_one]
        refine storeX 0 rfl Siz.eq rfl rfl (by simp [Value.oneCell']) (by omega) ?_
        simp (disch := omega) only [push_cast, Nat.reduceEqDiff, k3, k4, k6, k7, k85, k86, k11, k93, k94, List.set_cons_zero, Nat.mul_one]
        refine ⟨k + 1, _, fun w hw => hw, ⟨rfl, rfl, ⟨_, rfl, ?_, addTo_succ hct hv (by omega)⟩, by omega, k3, k4, k6, k7, k85, k86, k11, k93, by simp only [upd]; rfl⟩, by omega⟩
        show (splice cs k [i64 (v + 1000 * ((i : Int) + 1))]).length = _
        rw [splice_length (by simp only [List.length_cons, List.length_nil]; omega)]
        exact hcl
      · refine Exists.elim (mark_byte i) (fun c hcc => ?_)
        have hci := hcc.2
        have hmk : markB i = [109] ++ [c] := by rw [markB, ← hcc.1]; rfl
        have hkl : k = xi.p.length := by omega
        rw [hkl, addTo_all] at hct
        simp (disch := omega) only [push_cast, Nat.reduceEqDiff, k3, k4, k6, k7, k85, k86, k11, k93, k94, Nat.mul_one]
        have hsub : ([oV b7 (.slice (some ⟨rfb, 0, none⟩) ns.length vc2) 22, (rfb, Obj.cells csf.toArray 38 (0, 0))] : Own).Sublist HD := by
          rw [hHD]
          exact .cons _ (.cons _ (.cons _ (.cons_cons _ (.cons _ (.cons _ (.cons _ (.cons _ (.cons _ (.cons _ (.cons_cons _ (.slnil)))))))))))
        have hsubR : ([oV b7 (.slice (some ⟨rfb, 0, none⟩) ns.length vc2) 22, (rfb, Obj.cells csf.toArray 38 (0, 0))] : Own).Sublist RR := by rw [hRR]; exact hsub.trans (List.sublist_append_left _ _)
        have hbR : ∀ (X : Own), (∀ p ∈ X, wb.heap.size ≤ p.1) → ∀ p ∈ X ++ RR, wb.heap.size ≤ p.1 := fun X hX p hp => by
          rcases List.mem_append.1 hp with hp | hp
          · exact hX p hp
          · exact hRn p hp
        have hst : ∀ (X : Own), (∀ p ∈ X, wb.heap.size ≤ p.1) → Stab wb (X ++ RR) [oV b7 (.slice (some ⟨rfb, 0, none⟩) ns.length vc2) 22, (rfb, Obj.cells csf.toArray 38 (0, 0))] := fun X hX => Stab.of (hsubR.trans (List.sublist_append_right _ _)) (hbR X hX)
        have hx1 : ∀ p ∈ ([(xi.bw, Obj.cells cs.toArray 3 (0, 0))] : Own), wb.heap.size ≤ p.1 := fun p hp => by rw [List.mem_singleton.1 hp]; exact hbwn
        refine freeT [0, 1, 2, 3, 4, 5, 6, 7, 8, 9] [10, 11, 12, 13] [oV b7 (.slice (some ⟨rfb, 0, none⟩) ns.length vc2) 22, (rfb, Obj.cells csf.toArray 38 (0, 0))] (by kernel_rfl) mixed (by kernel_rfl) (hst [_] hx1) ?_
        simp (disch := omega) only [push_cast, Nat.reduceEqDiff, k3, k4, k6, k7, k85, k86, k11, k93, k94, Nat.mul_one, hci]
        refine ldOne Shp.eq mem0 rfl ?_
        simp (disch := omega) only [push_cast, Nat.reduceEqDiff, k3, k4, k6, k7, k85, k86, k11, k93, k94, Nat.mul_one, hci]
        refine ldOne Shp.eq mem1 (hfc 6 _ rfl) ?_
        simp (disch := omega) only [push_cast, Nat.reduceEqDiff, k3, k4, k6, k7, k85, k86, k11, k93, k94, Nat.mul_one, hci]
        refine bs_76_1 (newI fun b120 hb120 hn120 => ?_)
        simp (disch := omega) only [push_cast, Nat.reduceEqDiff, k3, k4, k6, k7, k85, k86, k11, k93, k94, Nat.mul_one, hci]
        have hx2 : ∀ p ∈ ([(b120, Obj.cells (bytesV [c]).toArray 5 (0, 0)), (xi.bw, Obj.cells cs.toArray 3 (0, 0))] : Own), wb.heap.size ≤ p.1 := fun p hp => by
          rcases List.mem_cons.1 hp with rfl | hp
          · exact hb120
          · exact hx1 p hp
        refine ⟨hst [_, _] hx2, ?_⟩
        have hro : RowO wb 5 1 ((b120, Obj.cells (bytesV [c]).toArray 5 (0, 0)) :: (xi.bw, Obj.cells cs.toArray 3 (0, 0)) :: RR) ((xi.bw, Obj.cells cs.toArray 3 (0, 0)) :: RR) (.slice (some ⟨b120, 0, none⟩) 1 1) 1 (bytesV [c]) := ⟨rfl, .inr ⟨b120, 1, bytesV [c], rfl, rfl, hb120, Nat.le_refl _, by simp only [maxLen]; omega, rfl, rfl⟩⟩
        refine convS un_76 Tryd.underlying5 Tryd.underlying9 (s := [c]) hro ?_
        simp (disch := omega) only [push_cast, Nat.reduceEqDiff, k3, k4, k6, k7, k85, k86, k11, k93, k94, Nat.mul_one, hci]
        refine ⟨hst [_, _] hx2, ?_⟩
        refine Eq.mpr (bin_str_add [109] [c] _ _ (by simp)) ?_
        simp (disch := omega) only [push_cast, Nat.reduceEqDiff, k3, k4, k6, k7, k85, k86, k11, k93, k94, Nat.mul_one, hci]
        refine ⟨hst [_, _] hx2, ?_⟩
        rw [hRR]
        have hnewS : ∀ p ∈ xi.K ++ (((b120, Obj.cells (bytesV [c]).toArray 5 (0, 0)) :: (xi.bw, Obj.cells cs.toArray 3 (0, 0)) :: HD) ++ (ownI (it.take i) ++ ownI (it.drop (i + 1)))), wb.heap.size ≤ p.1 := fun p hp => by
          rcases List.mem_append.1 hp with hp | hp
          · exact hRn p (by rw [hRR]; exact List.mem_append_right _ (List.mem_append_left _ hp))
          rcases List.mem_append.1 hp with hp | hp
          · rcases List.mem_cons.1 hp with rfl | hp
            · exact hb120
            rcases List.mem_cons.1 hp with rfl | hp
            · exact hbwn
            · exact hHDn p hp
          · exact hRn p (by rw [hRR]; exact List.mem_append_right _ (List.mem_append_right _ hp))
        refine callV en_11 (callX_base (fun w' hw' => spoil_walk wb w' xi.f.sub xi.K _ xi.fa xi.fc [109, c] (by simp) hxo.hF.toS (hw'.perm (List.perm_append_comm_assoc ((b120, Obj.cells (bytesV [c]).toArray 5 (0, 0)) :: (xi.bw, Obj.cells cs.toArray 3 (0, 0)) :: HD) xi.K (ownI (it.take i) ++ ownI (it.drop (i + 1))))) hnewS) ?_)
        rintro e' w' ⟨rfl, l2, K3, q1, q2, q3, q4, q5, q6⟩
        have hown := own_set (y := ⟨xi.p.map (· + 1000 * ((i : Int) + 1)), Fld.with xi.f l2, xi.bw, xi.cap, cs, K3, xi.fa, xi.fc⟩) hxi
        have hn2 : ∀ p ∈ ownI (it.set i ⟨xi.p.map (· + 1000 * ((i : Int) + 1)), Fld.with xi.f l2, xi.bw, xi.cap, cs, K3, xi.fa, xi.fc⟩), wb.heap.size ≤ p.1 := fun p hp => by
          have hp := hown.mem_iff.1 hp
          rcases List.mem_append.1 hp with hp | hp
          · rw [It.own] at hp
            rcases List.mem_cons.1 hp with rfl | hp
            · exact hbwn
            · exact q6 p hp
          · exact hRn p (by rw [hRR]; exact List.mem_append_right _ (List.mem_append_right _ hp))
        have hn3 : ∀ p ∈ HD ++ ownI (it.set i ⟨xi.p.map (· + 1000 * ((i : Int) + 1)), Fld.with xi.f l2, xi.bw, xi.cap, cs, K3, xi.fa, xi.fc⟩), wb.heap.size ≤ p.1 := fun p hp => by
          rcases List.mem_append.1 hp with hp | hp
          · exact hHDn p hp
          · exact hn2 p hp
        refine ⟨_, HD ++ ownI (it.set i ⟨xi.p.map (· + 1000 * ((i : Int) + 1)), Fld.with xi.f l2, xi.bw, xi.cap, cs, K3, xi.fa, xi.fc⟩), rfl, ?_, ?_⟩
        · have h1 := q5.mid K3 [_] (C := (xi.bw, Obj.cells cs.toArray 3 (0, 0)) :: (HD ++ (ownI (it.take i) ++ ownI (it.drop (i + 1))))) (fun p hp => by rw [List.mem_singleton.1 hp]; exact hb120)
          refine h1.perm (List.perm_middle.trans (((List.perm_append_comm_assoc K3 HD _).cons _).trans (List.perm_middle.symm.trans (List.Perm.append_left HD ?_))))
          exact hown.symm
        refine ⟨rfl, Stab.of (hsub.trans (List.sublist_append_left _ _)) hn3, ?_⟩
        simp (disch := omega) only [push_cast, Nat.reduceEqDiff, k3, k4, k6, k7, k85, k86, k11, k93, k94, Nat.mul_one]
        have hl2 : xi.f.sub.length ≤ 1048576 ∧ wideL 1048576 xi.f.sub = true := by
          have := (okS_iff n.f).1 (hokn n hnm)
          rw [hxf]
          exact ⟨by omega, wideL_le (by omega) (okT_wide _ this.2)⟩
        refine ⟨i + 1, _, fun w hw => hw, ⟨rfl, rfl, ⟨_, rfl, by rw [List.length_set]; exact hil, (ways_set hxi (by simp [It.way])).trans hiw, (flds_set hxi (with_cells xi.f l2 _ _ q2)).trans hif, fun j y hj => ?_, hn2⟩, by omega, k3, k4, k6, k7, k85, by simp only [upd]; rfl⟩, by omega⟩
        rw [List.getElem?_set] at hj
        split at hj
        · rename_i hij
          subst hij
          rw [if_pos (by omega)] at hj
          cases hj
          refine ⟨fun _ => ⟨⟨by simpa using hxo.h1, hxo.h2, hcl, by simpa using hct, OwS.toF (f := Fld.with xi.f l2) q1 hxo.hF.nm_le⟩, ⟨n, hn, by rw [hxp]⟩, fun g hg => by rw [hmk]; exact q3 g hg, by rw [Fld.with, Fld.sub, q2]; exact hl2.1, q4 _ hl2.2⟩, fun h => absurd h (by omega)⟩
        · rename_i hij
          have := hi12 j y hj
          exact ⟨fun h => this.1 (by omega), fun h => this.2 (by omega)⟩
    · simp (disch := omega) only [push_cast, Nat.reduceEqDiff, h3, h4, h6, h7, h85, h86, Nat.mul_one]
      have hie : i = ns.length := by omega
      have hsp : ∀ j x, it[j]? = some x → spoilt ns j x := fun j x hj => (hi12 j x hj).1 (by have := (List.getElem?_eq_some_iff.1 hj).1; omega)
      refine ldOne Shp.eq (List.mem_append_left _ hm6) rfl ?_
      simp (disch := omega) only [push_cast, Nat.reduceEqDiff, h3, h4, h6, h7]
      rw [V_block]
      simp (disch := omega) only [push_cast, Nat.reduceEqDiff, h3, h4, h6, h7]
      refine loopW (G := Nat) (L3I wb [{ target := .collected d, args := #[] }] HD ns (waysI its) (fldsI its) b3 b4 b6 b7) (fun i => ns.length - i) 0 (HD ++ ownI it) (fun w hw => hw) (by kernel_rfl) ⟨rfl, rfl, ⟨it, rfl, hil, hiw, hif, hsp, hin⟩, by omega, h3, h4, h6, h7, rfl, rfl⟩ ?_
      clear hi12 hsp hie hge hin hif hiw hil h3 h4 h6 h7 h85 h86 hi it i e
      rintro i wb e ds L ⟨rfl, rfl, ⟨it, rfl, hil, hiw, hif, hsp, hin⟩, hi, h3, h4, h6, h7, h126, h127⟩
      simp (disch := omega) only [push_cast, Nat.reduceEqDiff, h3, h4, h6, h7, h126, h127, Nat.mul_one]
      rw [V_cond]
      simp (disch := omega) only [push_cast, Nat.reduceEqDiff, h3, h4, h6, h7, h126, h127, Nat.mul_one]
      refine condX_d (fun hlt => ?_) (fun hge => ?_)
      · refine Exists.elim (show ∃ xi, it[i]? = some xi from ⟨_, List.getElem?_eq_getElem (by omega)⟩) (fun xi hxi => ?_)
        have hxs := hsp i xi hxi
        have hxo := hxs.hx
        have hpl : xi.p.length ≤ 64 := Exists.elim hxs.hp (fun n hn => by
          have h1 := nd_len 64 [] false l n (by rw [← hnd]; exact List.mem_of_getElem? hn.1)
          rw [hn.2, List.length_map, toInts_length]
          simpa using h1)
        have hcap : xi.cap ≤ 9223372036854775807 := hxo.h2
        have hwc : csw[i]? = some xi.way := by
          have q := ways_get hxi
          rw [hiw, ← hwc4, Nat.mul_one] at q
          rw [List.getElem?_take] at q
          split at q
          · exact q
          · cases q
        have hfc : ∀ k v, (xi.f.cells xi.fa xi.fc)[k]? = some v → csf[i * 7 + k]? = some v := fun k v h => by
          have q := flds_cell hxi h
          rw [hif, ← hfc4, List.getElem?_take] at q
          split at q
          · exact q
          · cases q
        obtain ⟨RR, hRR⟩ : ∃ RR : Own, RR = HD ++ (xi.K ++ (ownI (it.take i) ++ ownI (it.drop (i + 1)))) := ⟨_, rfl⟩
        have hRn : ∀ p ∈ RR, wb.heap.size ≤ p.1 := fun p hp => by
          rw [hRR] at hp
          rcases List.mem_append.1 hp with hp | hp
          · exact hHDn p hp
          · exact hin p ((own_at hxi).mem_iff.2 (by rw [It.own]; exact .tail _ hp))
        have hbwn : wb.heap.size ≤ xi.bw := hin _ ((own_at hxi).mem_iff.2 (by rw [It.own]; exact .head _))
        have hpm : ∀ cs : List Value, ((xi.bw, Obj.cells cs.toArray 3 (0, 0)) :: RR).Perm (HD ++ ((xi.bw, Obj.cells cs.toArray 3 (0, 0)) :: (xi.K ++ (ownI (it.take i) ++ ownI (it.drop (i + 1)))))) := fun cs => by rw [hRR]; exact List.perm_middle.symm
        have hm7' : oV b7 (.slice (some ⟨rfb, 0, none⟩) ns.length vc2) 22 ∈ RR := by rw [hRR]; exact List.mem_append_left _ hm7
        have hmf' : (rfb, Obj.cells csf.toArray 38 (0, 0)) ∈ RR := by rw [hRR]; exact List.mem_append_left _ hmf
        simp (disch := omega) only [push_cast, Nat.reduceEqDiff, h3, h4, h6, h7, h126, h127, Nat.mul_one]
        rw [V_block]
        simp (disch := omega) only [push_cast, Nat.reduceEqDiff, h3, h4, h6, h7, h126, h127, Nat.mul_one]
        refine ldOne Shp.eq (List.mem_append_left _ hm6) rfl ?_
        simp (disch := omega) only [push_cast, Nat.reduceEqDiff, h3, h4, h6, h7, h126, h127, Nat.mul_one]
        refine ldOne Shp.eq (List.mem_append_left _ hmw) hwc ?_
        simp (disch := omega) only [push_cast, Nat.reduceEqDiff, h3, h4, h6, h7, h126, h127, Nat.mul_one, It.way]
        rw [V_block]
        simp (disch := omega) only [push_cast, Nat.reduceEqDiff, h3, h4, h6, h7, h126, h127, Nat.mul_one]
        refine loopW (G := Nat) (L4I wb [{ target := .collected d, args := #[] }] (fun M0 => ∃ cs' : List Value, M0 = [(xi.bw, Obj.cells cs'.toArray 3 (0, 0))] ∧ cs'.length = xi.cap ∧ cs'.take xi.p.length = xi.p.map i64) RR xi.p.length ns.length i b3 b4 b6 b7) (fun k => 12 - k) 0 ((xi.bw, Obj.cells xi.cs.toArray 3 (0, 0)) :: RR) (fun w hw => hw.perm (((List.Perm.append_left HD (own_at hxi)).trans (by rw [It.own]; exact (hpm xi.cs).symm)))) (by kernel_rfl) ⟨rfl, rfl, ⟨_, xi.p.map i64, rfl, .inl ⟨by simp, xi.bw, xi.cap, xi.cs, rfl, rfl, hxo.h1, hxo.h2, by rw [hxo.h3]; omega, by rw [Nat.add_zero, Nat.mul_one]; exact hxo.h4, fun cs' z1 z2 => ⟨cs', rfl, z1.trans hxo.h3, by rw [Nat.add_zero, Nat.mul_one] at z2; exact z2⟩⟩⟩, by omega, h3, h4, h6, h7, h126, h127, by simp only [upd]; rfl, by simp only [upd]; rfl⟩ ?_
        rintro k wb e ds L ⟨rfl, rfl, ⟨v, xs', k14, hrow⟩, hk, k3, k4, k6, k7, k126, k127, k13, k15⟩
        have hLn := hrow.new (fun M0 hM0 p hp => Exists.elim hM0 (fun cs' h => by rw [h.1] at hp; rw [List.mem_singleton.1 hp]; exact hbwn)) hRn
        simp (disch := omega) only [push_cast, Nat.reduceEqDiff, k3, k4, k6, k7, k126, k127, k13, k15, Nat.mul_one, k14]
        rw [V_cond]
        simp (disch := omega) only [push_cast, Nat.reduceEqDiff, k3, k4, k6, k7, k126, k127, k13, k15, Nat.mul_one, k14]
        refine condX_d (fun hklt => ?_) (fun hkge => ?_)
        · simp (disch := omega) only [push_cast, Nat.reduceEqDiff, k3, k4, k6, k7, k126, k127, k13, k15, Nat.mul_one, k14]
          rw [V_block]
          simp (disch := omega) only [push_cast, Nat.reduceEqDiff, k3, k4, k6, k7, k126, k127, k13, k15, Nat.mul_one, k14]
          refine bs_26_1 (newI fun b139 hb139 hn139 => ?_)
          simp (disch := omega) only [push_cast, Nat.reduceEqDiff, k3, k4, k6, k7, k126, k127, k13, k15, Nat.mul_one, k14]
          refine Exists.elim (hrow.over (b139, Obj.cells #[i64 (-7)] 3 (0, 0))) (fun L2 hL2 => ?_)
          refine valX_weak hL2.2 (appendK un_26 infoInt rfl (by decide) (by decide) (m := 1) (news := [i64 (-7)]) hL2.1 rfl hL2.1.reads (by simp [Value.oneCell']) (by simp only [maxLen]; omega) (by omega) (fun v5 L5 hrow5 => ?_))
          simp (disch := omega) only [push_cast, Nat.reduceEqDiff, k3, k4, k6, k7, k126, k127, k13, k15, Nat.mul_one, k14]
          refine Exists.elim (hrow5.shrink _ hb139) (fun L6 hL6 => ?_)
          exact ⟨k + 1, L6, hL6.2, ⟨rfl, rfl, ⟨_, _, by simp only [upd]; rfl, hL6.1⟩, by omega, k3, k4, k6, k7, k126, k127, k13, by simp only [upd]; rfl⟩, by omega⟩
        · simp (disch := omega) only [push_cast, Nat.reduceEqDiff, k3, k4, k6, k7, k126, k127, k13, k15, Nat.mul_one, k14]
          refine Exists.elim hrow.ends (fun M0 hM0 => ?_)
          refine Exists.elim hM0.1 (fun cs' hcs' => ?_)
          have hs0 := hM0.2
          rw [hcs'.1] at hs0
          have hcl := hcs'.2.1
          have hct := hcs'.2.2
          refine ldOne Shp.eq (hrow.mem hm7') rfl ?_
          simp (disch := omega) only [push_cast, Nat.reduceEqDiff, k3, k4, k6, k7, k126, k127, k13, k15, Nat.mul_one, k14]
          refine ldOne Shp.eq (hrow.mem hmf') (hfc 6 _ rfl) ?_
          simp (disch := omega) only [push_cast, Nat.reduceEqDiff, k3, k4, k6, k7, k126, k127, k13, k15, Nat.mul_one, k14]
          have hnewS : ∀ p ∈ xi.K ++ (((xi.bw, Obj.cells cs'.toArray 3 (0, 0)) :: HD) ++ (ownI (it.take i) ++ ownI (it.drop (i + 1)))), wb.heap.size ≤ p.1 := fun p hp => by
            rcases List.mem_append.1 hp with hp | hp
            · exact hRn p (by rw [hRR]; exact List.mem_append_right _ (List.mem_append_left _ hp))
            rcases List.mem_append.1 hp with hp | hp
            · rcases List.mem_cons.1 hp with rfl | hp
              · exact hbwn
              · exact hHDn p hp
            · exact hRn p (by rw [hRR]; exact List.mem_append_right _ (List.mem_append_right _ hp))
          refine callV en_43 (callX_base (fun w' hw' => growF_walk wb w' xi.f.sub xi.K _ xi.fa xi.fc [103, 114, 111, 119, 110] (by simp) hxo.hF.toS hxs.hl hxs.hw ((hs0 w' hw').perm (by rw [hRR]; exact List.perm_append_comm_assoc ((xi.bw, Obj.cells cs'.toArray 3 (0, 0)) :: HD) xi.K (ownI (it.take i) ++ ownI (it.drop (i + 1))))) hnewS) ?_)
          rintro e' w' ⟨rfl, K3, q1, q5, q6⟩
          have hown := own_set (y := ⟨xi.p, xi.f, xi.bw, xi.cap, cs', K3, xi.fa, xi.fc⟩) hxi
          have hn2 : ∀ p ∈ ownI (it.set i ⟨xi.p, xi.f, xi.bw, xi.cap, cs', K3, xi.fa, xi.fc⟩), wb.heap.size ≤ p.1 := fun p hp => by
            have hp := hown.mem_iff.1 hp
            rcases List.mem_append.1 hp with hp | hp
            · rw [It.own] at hp
              rcases List.mem_cons.1 hp with rfl | hp
              · exact hbwn
              · exact q6 p hp
            · exact hRn p (by rw [hRR]; exact List.mem_append_right _ (List.mem_append_right _ hp))
          refine ⟨_, HD ++ ownI (it.set i ⟨xi.p, xi.f, xi.bw, xi.cap, cs', K3, xi.fa, xi.fc⟩), rfl, ?_, ?_⟩
          · refine q5.perm (List.perm_middle.trans (((List.perm_append_comm_assoc K3 HD _).cons _).trans (List.perm_middle.symm.trans (List.Perm.append_left HD ?_))))
            exact hown.symm
          simp (disch := omega) only [push_cast, Nat.reduceEqDiff, k3, k4, k6, k7, k126, k127, k13, k15, Nat.mul_one, k14]
          refine ⟨i + 1, _, fun w hw => hw, ⟨rfl, rfl, ⟨_, rfl, by rw [List.length_set]; exact hil, (ways_set hxi (by simp [It.way])).trans hiw, (flds_set (y := ⟨xi.p, xi.f, xi.bw, xi.cap, cs', K3, xi.fa, xi.fc⟩) hxi rfl).trans hif, fun j y hj => ?_, hn2⟩, by omega, k3, k4, k6, k7, k126, by simp only [upd]; rfl⟩, by omega⟩
          rw [List.getElem?_set] at hj
          split at hj
          · rename_i hij
            subst hij
            rw [if_pos (by omega)] at hj
            cases hj
            exact ⟨⟨hxo.h1, hxo.h2, hcl, hct, q1.toF hxo.hF.nm_le⟩, hxs.hp, hxs.hm, hxs.hl, hxs.hw⟩
          · exact hsp j y hj
      · simp (disch := omega) only [push_cast, Nat.reduceEqDiff, h3, h4, h6, h7, h126, h127, Nat.mul_one]
        refine ldOne Shp.eq (List.mem_append_left _ hm6) rfl ?_
        simp (disch := omega) only [push_cast, Nat.reduceEqDiff, h3, h4, h6, h7]
        rw [V_block]
        simp (disch := omega) only [push_cast, Nat.reduceEqDiff, h3, h4, h6, h7]
        have hLLn : ∀ p ∈ HD ++ ownI it, wb.heap.size ≤ p.1 := fun p hp => by
          rcases List.mem_append.1 hp with hp | hp
          · exact hHDn p hp
          · exact hin p hp
        obtain ⟨LL, hLL⟩ : ∃ LL : Own, LL = HD ++ ownI it := ⟨_, rfl⟩
        rw [← hLL] at hLLn
        have hmH : ∀ p ∈ HD, p ∈ LL := fun p hp => by rw [hLL]; exact List.mem_append_left _ hp
        refine loopW (G := Nat) (L5I wb [{ target := .collected d, args := #[] }] LL ns.length b3 b4 b6 b7) (fun i => ns.length - i) 0 LL (fun w hw => by rw [hLL]; exact hw) (by kernel_rfl) ⟨rfl, rfl, rfl, by omega, h3, h4, h6, h7, rfl, rfl⟩ ?_
        clear hge h3 h4 h6 h7 h126 h127 hi i e
        rintro i wb e ds L ⟨rfl, rfl, rfl, hi, h3, h4, h6, h7, h150, h151⟩
        simp (disch := omega) only [push_cast, Nat.reduceEqDiff, h3, h4, h6, h7, h150, h151, Nat.mul_one]
        rw [V_cond]
        simp (disch := omega) only [push_cast, Nat.reduceEqDiff, h3, h4, h6, h7, h150, h151, Nat.mul_one]
        refine condX_d (fun hlt => ?_) (fun hge => ?_)
        · refine Exists.elim (show ∃ xi, it[i]? = some xi from ⟨_, List.getElem?_eq_getElem (by omega)⟩) (fun xi hxi => ?_)
          have hxs := hsp i xi hxi
          have hxo := hxs.hx
          refine Exists.elim hxs.hp (fun n hnp => ?_)
          have hn := hnp.1
          have hxp := hnp.2
          have hnm := List.mem_of_getElem? hn
          have hpl : xi.p.length ≤ 64 := by
            have h1 := nd_len 64 [] false l n (by rw [← hnd]; exact hnm)
            rw [hxp, List.length_map, toInts_length]
            simpa using h1
          refine Exists.elim (hwn i n hn) (fun pb hpb => Exists.elim hpb (fun ga hga => Exists.elim hga (fun gc hgg => ?_)))
          have g1 := hgg.1
          have g3 := hgg.2.2.1
          have g4 := hgg.2.2.2.1
          have hcap : xi.cap ≤ 9223372036854775807 := hxo.h2
          have hwc : csw[i]? = some xi.way := by
            have q := ways_get hxi
            rw [hiw, ← hwc4, Nat.mul_one] at q
            rw [List.getElem?_take] at q
            split at q
            · exact q
            · cases q
          have hfc : ∀ k v, (xi.f.cells xi.fa xi.fc)[k]? = some v → csf[i * 7 + k]? = some v := fun k v h => by
            have q := flds_cell hxi h
            rw [hif, ← hfc4, List.getElem?_take] at q
            split at q
            · exact q
            · cases q
          have hbwL : (xi.bw, Obj.cells xi.cs.toArray 3 (0, 0)) ∈ L := by rw [hLL]; exact List.mem_append_right _ ((own_at hxi).mem_iff.2 (by rw [It.own]; exact .head _))
          have hKL : ∀ p ∈ xi.K, p ∈ L := fun p hp => by rw [hLL]; exact List.mem_append_right _ ((own_at hxi).mem_iff.2 (by rw [It.own]; exact .tail _ (List.mem_append_left _ hp)))
          simp (disch := omega) only [push_cast, Nat.reduceEqDiff, h3, h4, h6, h7, h150, h151, Nat.mul_one]
          rw [V_block]
          simp (disch := omega) only [push_cast, Nat.reduceEqDiff, h3, h4, h6, h7, h150, h151, Nat.mul_one]
          refine ldOne Shp.eq (hmH _ hm6) rfl ?_
          simp (disch := omega) only [push_cast, Nat.reduceEqDiff, h3, h4, h6, h7, h150, h151, Nat.mul_one]
          refine ldOne Shp.eq (hmH _ hmw) hwc ?_
          simp (disch := omega) only [push_cast, Nat.reduceEqDiff, h3, h4, h6, h7, h150, h151, Nat.mul_one, It.way]
          rw [V_block]
          simp (disch := omega) only [push_cast, Nat.reduceEqDiff, h3, h4, h6, h7, h150, h151, Nat.mul_one]
          refine loopW (G := Nat) (L6I wb [{ target := .collected d, args := #[] }] L ns.length i xi.p.length b3 b4 b6 b7) (fun k => xi.p.length - k) 0 L (fun w hw => hw) (by kernel_rfl) ⟨rfl, rfl, rfl, by omega, h3, h4, h6, h7, h150, h151, by simp only [upd]; rfl, by simp only [upd]; rfl, by simp only [upd]; rfl⟩ ?_
          rintro k wb e ds L' ⟨rfl, rfl, hLe, hk, k3, k4, k6, k7, k150, k151, k16, k158, k159⟩
          rw [hLe]
          simp (disch := omega) only [push_cast, Nat.reduceEqDiff, k3, k4, k6, k7, k150, k151, k16, k158, k159, Nat.mul_one]
          rw [V_cond]
          simp (disch := omega) only [push_cast, Nat.reduceEqDiff, k3, k4, k6, k7, k150, k151, k16, k158, k159, Nat.mul_one]
          refine condX_d (fun hklt => ?_) (fun hkge => ?_)
          · refine Exists.elim (show ∃ q, n.path[k]? = some q from ⟨_, List.getElem?_eq_getElem (by rw [hxp, List.length_map, toInts_length] at hklt; omega)⟩) (fun q hq => ?_)
            have hq32 := hsmall n hnm q (List.mem_of_getElem? hq)
            have hv : xi.p[k]? = some ((q : Int) + 1000 * ((i : Int) + 1)) := by rw [hxp]; simp [toInts, hq]
            have hcell : xi.cs[k]? = some (i64 ((q : Int) + 1000 * ((i : Int) + 1))) := by
              have q1 : (xi.cs.take xi.p.length)[k]? = some (i64 ((q : Int) + 1000 * ((i : Int) + 1))) := by rw [hxo.h4, List.getElem?_map, hv]; rfl
              rw [List.getElem?_take] at q1
              split at q1
              · exact q1
              · cases q1
            have hpk : At wb pb k [i64 q] := by
              have := g4.sub k [i64 q] (by simp [ints]; rw [List.take_one]; simp [hq])
              rwa [Nat.zero_add] at this
            have hkp : k < n.path.length := (List.getElem?_eq_some_iff.1 hq).1
            simp (disch := omega) only [push_cast, Nat.reduceEqDiff, k3, k4, k6, k7, k150, k151, k16, k158, k159, Nat.mul_one]
            rw [V_block]
            simp (disch := omega) only [push_cast, Nat.reduceEqDiff, k3, k4, k6, k7, k150, k151, k16, k158, k159, Nat.mul_one]
            refine drawQT (by kernel_rfl) (by kernel_rfl) mixed (by kernel_rfl) ?_
            simp (disch := omega) only [push_cast, Nat.reduceEqDiff, k3, k4, k6, k7, k150, k151, k16, k158, k159, Nat.mul_one]
            refine ldOne Shp.eq (hmH _ hm6) rfl ?_
            simp (disch := omega) only [push_cast, Nat.reduceEqDiff, k3, k4, k6, k7, k150, k151, k16, k158, k159, Nat.mul_one]
            refine ldOne Shp.eq (hmH _ hmw) hwc ?_
            simp (disch := omega) only [push_cast, Nat.reduceEqDiff, k3, k4, k6, k7, k150, k151, k16, k158, k159, Nat.mul_one, It.way]
            refine ldOne Shp.eq hbwL hcell ?_
            simp (disch := omega) only [push_cast, Nat.reduceEqDiff, k3, k4, k6, k7, k150, k151, k16, k158, k159, Nat.mul_one]
            refine ldOne Shp.eq (hmH _ hm3) rfl ?_
            simp (disch := omega) only [push_cast, Nat.reduceEqDiff, k3, k4, k6, k7, k150, k151, k16, k158, k159, Nat.mul_one, hva]
            refine ldF Shp.eq g1 (out_lt (Nat.lt_of_lt_of_le hvb hlo) hLLn) ?_
            simp (disch := omega) only [push_cast, Nat.reduceEqDiff, k3, k4, k6, k7, k150, k151, k16, k158, k159, Nat.mul_one]
            refine ldF Shp.eq hpk (out_lt (Nat.lt_of_lt_of_le g3 hlo) hLLn) ?_
            simp (disch := omega) only [push_cast, Nat.reduceEqDiff, k3, k4, k6, k7, k150, k151, k16, k158, k159, Nat.mul_one, ne_eq, not_true_eq_false, decide_false]
            rw [V_cond]
            simp (disch := omega) only [push_cast, Nat.reduceEqDiff, k3, k4, k6, k7, k150, k151, k16, k158, k159, Nat.mul_one]
            exact ⟨k + 1, _, fun w hw => hw, ⟨rfl, rfl, rfl, by omega, k3, k4, k6, k7, k150, k151, k16, k158, by simp only [upd]; rfl⟩, by omega⟩
          · simp (disch := omega) only [push_cast, Nat.reduceEqDiff, k3, k4, k6, k7, k150, k151, k16, k158, k159, Nat.mul_one]
            refine ldOne Shp.eq (hmH _ hm7) rfl ?_
            simp (disch := omega) only [push_cast, Nat.reduceEqDiff, k3, k4, k6, k7, k150, k151, k16, k158, k159, Nat.mul_one]
            refine ldOne Shp.eq (hmH _ hmf) (hfc 6 _ rfl) ?_
            simp (disch := omega) only [push_cast, Nat.reduceEqDiff, k3, k4, k6, k7, k150, k151, k16, k158, k159, Nat.mul_one]
            rw [V_block]
            simp (disch := omega) only [push_cast, Nat.reduceEqDiff, k3, k4, k6, k7, k150, k151, k16, k158, k159, Nat.mul_one]
            refine loopW (G := Nat) (L7I wb [{ target := .collected d, args := #[] }] L ns.length i xi.f.sub.length (.slice xi.fa xi.f.sub.length xi.fc) b3 b4 b6 b7) (fun k => xi.f.sub.length - k) 0 L (fun w hw => hw) (by kernel_rfl) ⟨rfl, rfl, rfl, by omega, k3, k4, k6, k7, k150, k151, k16, by simp only [upd]; rfl, by simp only [upd]; rfl, by simp only [upd]; rfl⟩ ?_
            clear k3 k4 k6 k7 k150 k151 k16 k158 k159 hkge hk
            rintro k wb e ds L' ⟨rfl, rfl, hLe, hk, k3, k4, k6, k7, k150, k151, k16, k188, k189, k190⟩
            rw [hLe]
            simp (disch := omega) only [push_cast, Nat.reduceEqDiff, k3, k4, k6, k7, k150, k151, k16, k188, k189, k190, Nat.mul_one]
            rw [V_cond]
            simp (disch := omega) only [push_cast, Nat.reduceEqDiff, k3, k4, k6, k7, k150, k151, k16, k188, k189, k190, Nat.mul_one]
            refine condX_d (fun hklt => ?_) (fun hkge => ?_)
            · refine Exists.elim (show ∃ g, xi.f.sub[k]? = some g from ⟨_, List.getElem?_eq_getElem (by omega)⟩) (fun g hg => ?_)
              have hgm := hxs.hm g (List.mem_of_getElem? hg)
              have hsl := hxs.hl
              have hrx := hxo.hF.rdx (G := fun w => Held w xi.K) (f := xi.f) (fun _ h => h)
              refine Exists.elim (show ∃ bb oo, xi.fa = some ⟨bb, oo, none⟩ from by
                have hne : xi.f.sub ≠ [] := by intro h; rw [h] at hg; simp at hg
                obtain ⟨f0, l0, hfl⟩ := List.exists_cons_of_ne_nil hne
                rw [hfl] at hrx
                exact hrx.some_of) (fun bb hbb => Exists.elim hbb (fun oo hbo => ?_))
              rw [hbo] at hrx
              refine Exists.elim (hrx.get k hg) (fun ka hka => Exists.elim hka (fun kc hkk => ?_))
              have hat := hkk.1
              refine Exists.elim (mark_byte i) (fun c hcc => ?_)
              have hci := hcc.2
              have hmk : g.nm = [109] ++ [c] := by rw [hgm, markB, ← hcc.1]; rfl
              simp (disch := omega) only [push_cast, Nat.reduceEqDiff, k3, k4, k6, k7, k150, k151, k16, k188, k189, k190, Nat.mul_one, hbo]
              rw [V_block]
              simp (disch := omega) only [push_cast, Nat.reduceEqDiff, k3, k4, k6, k7, k150, k151, k16, k188, k189, k190, Nat.mul_one, hbo]
              refine ldAt Shp.eq (fun w hw => hat w (Held.of_sy hw hKL)) rfl ?_
              simp (disch := omega) only [push_cast, Nat.reduceEqDiff, k3, k4, k6, k7, k150, k151, k16, k188, k189, k190, Nat.mul_one, Fld.cells]
              refine newI (fun b19 hb19 hn19 => ?_)
              simp (disch := omega) only [push_cast, Nat.reduceEqDiff, k3, k4, k6, k7, k150, k151, k16, k188, k189, k190, Nat.mul_one]
              refine storeX 0 rfl Siz.eq rfl rfl (by simp [Value.oneCell']) (by simp) ?_
              simp (disch := omega) only [push_cast, Nat.reduceEqDiff, k3, k4, k6, k7, k150, k151, k16, k188, k189, k190, Nat.mul_one]
              refine ldOne Shp.eq mem0 rfl ?_
              simp (disch := omega) only [push_cast, Nat.reduceEqDiff, k3, k4, k6, k7, k150, k151, k16, k188, k189, k190, Nat.mul_one, hci]
              refine bs_76_1 (newI fun b120 hb120 hn120 => ?_)
              simp (disch := omega) only [push_cast, Nat.reduceEqDiff, k3, k4, k6, k7, k150, k151, k16, k188, k189, k190, Nat.mul_one, hci]
              have hro : RowO wb 5 1 ((b120, Obj.cells (bytesV [c]).toArray 5 (0, 0)) :: oFd b19 g ka kc :: L) (oFd b19 g ka kc :: L) (.slice (some ⟨b120, 0, none⟩) 1 1) 1 (bytesV [c]) := ⟨rfl, .inr ⟨b120, 1, bytesV [c], rfl, rfl, hb120, Nat.le_refl _, by simp only [maxLen]; omega, rfl, rfl⟩⟩
              refine convS un_76 Tryd.underlying5 Tryd.underlying9 (s := [c]) hro ?_
              simp (disch := omega) only [push_cast, Nat.reduceEqDiff, k3, k4, k6, k7, k150, k151, k16, k188, k189, k190, Nat.mul_one, hci]
              refine Eq.mpr (bin_str_add [109] [c] _ _ (by simp)) ?_
              simp (disch := omega) only [push_cast, Nat.reduceEqDiff, k3, k4, k6, k7, k150, k151, k16, k188, k189, k190, Nat.mul_one, hci]
              rw [V_cond]
              simp (disch := omega) only [push_cast, Nat.reduceEqDiff, k3, k4, k6, k7, k150, k151, k16, k188, k189, k190, Nat.mul_one]
              refine condX_d (fun h => absurd hmk h) (fun _ => ?_)
              simp (disch := omega) only [push_cast, Nat.reduceEqDiff, k3, k4, k6, k7, k150, k151, k16, k188, k189, k190, Nat.mul_one]
              exact ⟨k + 1, L, fun w hw => hw.left (A := [_, _]) (fun p hp => by
                rcases List.mem_cons.1 hp with rfl | hp
                · exact hb120
                · rw [List.mem_singleton.1 hp]; exact hb19), ⟨rfl, rfl, rfl, by omega, k3, k4, k6, k7, k150, k151, k16, k188, k189, by simp only [upd]; rfl⟩, by omega⟩
            · simp (disch := omega) only [push_cast, Nat.reduceEqDiff, k3, k4, k6, k7, k150, k151, k16, k188, k189, k190, Nat.mul_one]
              exact ⟨i + 1, _, fun w hw => hw, ⟨rfl, rfl, rfl, by omega, k3, k4, k6, k7, k150, by simp only [upd]; rfl⟩, by omega⟩
        · simp (disch := omega) only [push_cast, Nat.reduceEqDiff, h3, h4, h6, h7, h150, h151, Nat.mul_one]
          rw [hLL, hHD]
          refine storeX 6 rfl Siz.eq rfl rfl (by simp [Value.oneCell']) (by simp) ?_
          simp (disch := omega) only [push_cast, Nat.reduceEqDiff, h3, h4, h6, h7]
          refine ⟨d, 1, rfl, rfl, ?_⟩
          simp (disch := omega) only [push_cast, Nat.reduceEqDiff, h3, h4, h6, h7]
          refine ldOne Shp.eq mem6 rfl ?_
          simp (disch := omega) only [push_cast, Nat.reduceEqDiff, h3, h4, h6, h7]
          refine finIs (fun p hp => ?_) rfl
          rw [hHD] at hHDn
          simp only [List.mem_cons, List.mem_append] at hp
          rcases hp with rfl | rfl | rfl | rfl | rfl | rfl | rfl | rfl | rfl | hp
          · exact hlr
          · exact hd
          · exact hb8
          · exact hb7
          · exact hb6
          · exact hb5
          · exact hb4
          · exact hb3
          · exact hb2
          · rcases hp with rfl | rfl | hp
            · exact hrwb
            · exact hrfb
            · exact hin p hp
end Go.Proofs.YtgbafmjgfbgeoaaDoor
