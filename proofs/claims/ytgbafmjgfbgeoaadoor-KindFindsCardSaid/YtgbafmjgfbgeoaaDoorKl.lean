/- YtgbafmjgfbgeoaaDoor: the walk calculus, part Kl: proved rules by which the walks of this seat are made. -/
import Derived.Test.YtgbafmjgfbgeoaaDoorKk

namespace Go.K
open Go
set_option linter.unusedVariables false
set_option linter.unusedSimpArgs false

variable {wb : World} {L : Own} {P : Program}

@[push_cast] theorem VLT_drop_succ {c : Cfg} {all : List Oper} {Q : Post} (n : Nat) (o : Oper) (l : List Oper) (e : Env) (ds : List Deferred) : VLT c (tag all) (tag Q) (tag (List.drop (n + 1) (o :: l))) wb e ds L = VLT c (tag all) (tag Q) (tag (List.drop n l)) wb e ds L := (rfl)
@[push_cast] theorem VLT_drop_zero {c : Cfg} {all : List Oper} {Q : Post} (l : List Oper) (e : Env) (ds : List Deferred) : VLT c (tag all) (tag Q) (tag (List.drop 0 l)) wb e ds L = VLT c (tag all) (tag Q) (tag l) wb e ds L := (rfl)
/-- What is known may be told otherwise. -/
theorem valX_weak {s : Sem Value} {L' : Own} {K : Value → World → Own → Prop} (hs : ∀ w, Sy wb L w → Sy wb L' w) (h : ValX P s wb L' (tag K)) : ValX P s wb L (tag K) := fun w hw => h w (hs w hw)
theorem valX_out {s : Sem Value} {K K' : Value → World → Own → Prop} (h : ValX P s wb L (tag K')) (hk : ∀ v wb L, K' v wb L → K v wb L) : ValX P s wb L (tag K) := fun w hw => by
  obtain ⟨v, w', wb', L', h1, h2, h3⟩ := h w hw
  exact ⟨v, w', wb', L', h1, h2, hk _ _ _ h3⟩
theorem callX_weak {f : FuncId} {args : Array Value} {L' : Own} {K : Value → World → Own → Prop} {Kp : KP} (hs : ∀ w, Sy wb L w → Sy wb L' w) (h : CallX P f args wb L' (tag K) (tag Kp)) : CallX P f args wb L (tag K) (tag Kp) := fun w hw => h w (hs w hw)

theorem bin_slice_nil {K : Value → Prop} {t e n c : Nat} {x y : Operand} (a : Option Addr) (ht : P.underlying t = some (.slice e)) : PureX P (binV .eql t x y (.slice a n c) (.slice none 0 0)) (tag K) = K (.bool a.isNone) := px (fun w => by
  have h : (Op.equal t (.slice a n c) (.slice none 0 0)).run P w = .ok a.isNone w := by
    show (Op.equalIn (9999 + 1) t (.slice a n c) (.slice none 0 0)).run P w = _
    unfold Op.equalIn
    simp only [underlying, Sem.run_bind, run_program, Result.andThen_ok, ht, Sem.run_pure]
    cases a <;> simp
  show ((do eqGuard .eql t x y (.slice a n c) (.slice none 0 0); (do pure (.bool (← Op.equal t (.slice a n c) (.slice none 0 0)))) : Sem Value)).run P w = _
  have hg : eqGuard .eql t x y (.slice a n c) (.slice none 0 0) = pure () := rfl
  rw [hg]
  simp only [Sem.run_bind, Sem.run_pure, Result.andThen_ok, h]) K

theorem makeEmpty {t e size : Nat} {K : Value → World → Own → Prop} (ht : P.underlying t = some (.slice e)) (hi : (P.info? e).map (·.size) = some size)
    (h : NewX wb L (.cells #[] e (0, 0)) (tag fun b L => K (.slice (some ⟨b, 0, none⟩) 0 0) wb L)) : ValX P (Instr.buildSlice t 0 #[]) wb L (tag K) := by
  refine valX_new (f := fun b => .slice (some ⟨b, 0, none⟩) 0 0) (o := .cells #[] e (0, 0)) (fun w => ?_) h
  cases hh : P.info? e with
  | none => rw [hh] at hi; cases hi
  | some inf =>
    have hr : Array.range 0 = (#[] : Array Nat) := by simp
    simp [Instr.buildSlice, underlying, ht, sizeOf, typeInfo, hh, Instr.fill, newRow, hr]
theorem makeOne {t e size : Nat} {v z : Value} {K : Value → World → Own → Prop} (ht : P.underlying t = some (.slice e)) (hi : (P.info? e).map (·.size) = some size) (h0 : 0 < size) (h24 : size ≤ 16777216) (hz : ∀ w, (zeroValue e).run P w = .ok z w) (hv : v.cells.size = size)
    (h : NewX wb L (.cells v.cells e (0, 0)) (tag fun b L => K (.slice (some ⟨b, 0, none⟩) 1 1) wb L)) : ValX P (Instr.buildSlice t 1 #[(0, v)]) wb L (tag K) := by
  refine valX_new (f := fun b => .slice (some ⟨b, 0, none⟩) 1 1) (o := .cells v.cells e (0, 0)) (fun w => ?_) h
  cases hh : P.info? e with
  | none => rw [hh] at hi; cases hi
  | some inf =>
    have hs : inf.size = size := by rw [hh] at hi; simpa using hi
    have hfill : Instr.fill (fun i => some (i * size, size)) ((Array.range (1 * size)).map (z.cells[· % z.cells.size]!)) [(0, v)] = some v.cells := by
      simp only [Instr.fill, hv, ne_eq, not_true_eq_false, false_or, Nat.zero_mul, Nat.zero_add, Array.size_map, Array.size_range, Nat.one_mul, gt_iff_lt, Nat.lt_irrefl, if_false]
      simp only [decide_false, Bool.false_or, Bool.false_eq_true, if_false, Nat.lt_irrefl, decide_eq_true_eq]
      congr 1
      have key : ∀ (cs : List Value) (k : Nat) (a : Array Value), a.size = k + cs.length → ((cs.zipIdx k).foldl (fun cs (c, j) => cs.setIfInBounds j c) a).toList = a.toList.take k ++ cs := by
        intro cs
        induction cs with
        | nil => intro k a ha; simp at ha; simp only [List.zipIdx_nil, List.foldl_nil, List.append_nil]; rw [List.take_of_length_le (by simp; omega)]
        | cons c cs ih =>
          intro k a ha
          simp only [List.zipIdx_cons, List.foldl_cons]
          rw [ih (k + 1) _ (by simp at ha ⊢; omega)]
          simp only [List.length_cons] at ha
          rw [Array.toList_setIfInBounds, List.take_set, List.take_add_one]
          have : a.toList[k]? = some (a.toList[k]'(by simp; omega)) := List.getElem?_eq_getElem _
          rw [this]
          simp only [Option.toList_some]
          rw [List.set_append]
          have hk : (List.take k a.toList).length = k := by simp; omega
          rw [if_neg (by omega), hk]
          simp
      apply Array.toList_inj.1
      rw [← Array.foldl_toList]
      simp only [Array.toList_zipIdx]
      rw [key v.cells.toList 0 _ (by simp [hv])]
      simp
    simp only [Instr.buildSlice, underlying, Sem.run_bind, run_program, Result.andThen_ok, ht, sizeOf, typeInfo, hh, Sem.run_pure, hs]
    rw [if_neg (by omega), if_neg (by omega)]
    rw [Nat.one_mul] at hfill
    simp [hz w, hfill, newRow]
theorem loopW {c : Cfg} {wb : World} {e : Env} {ds : List Deferred} {L : Own} {G : Type} {body : Code} {Q : Post} (I : G → World → Env → List Deferred → Own → Prop) (μ : G → Nat) (g : G) (L0 : Own) (hL0 : ∀ w, Sy wb L w → Sy wb L0 w) (hok : okCode c.n body = true) (h0 : I g wb e ds L0)
    (hr : ∀ g wb e ds L, I g wb e ds L → VT c (tag body) (tag (thenP (tag fun wb' e' ds' L' => ∃ g' L'', (∀ w, Sy wb' L' w → Sy wb' L'' w) ∧ I g' wb' e' ds' L'' ∧ μ g' < μ g) (tag Q))) wb e ds L) : SemT c (tag (.loop body)) (tag Q) wb e ds L := by
  intro a w hra hwa
  refine wpIn_loop_ghost (fun g a w => ∃ wb e ds L, Rep c.n a e ds ∧ Sy wb L w ∧ I g wb e ds L) μ g ⟨wb, e, ds, L0, hra, hL0 w hwa, h0⟩ ?_
  rintro g a w ⟨wb, e, ds, L, hra, hwa, hi⟩
  refine wpIn_mono (V_sound body _ wb e ds L hok (hr g wb e ds L hi) a w hra hwa) ?_
  rintro x a' w' ⟨wb', e', ds', L', hr', hw', hq⟩
  cases x with
  | normal => obtain ⟨g', L'', hsub, hi', hlt⟩ := hq; exact ⟨g', ⟨wb', e', ds', L'', hr', hsub _ hw', hi'⟩, hlt⟩
  | _ => exact ⟨wb', e', ds', L', hr', hw', hq⟩
/-- A row of cells of one each that lies among what is owned, or nil. -/
def RowIn (L : Own) (e : TypeId) (v : Value) (n : Nat) (xs : List Value) : Prop :=
  xs.length = n ∧ ((v = .slice none 0 0 ∧ n = 0) ∨ ∃ (b cap : Nat) (cs : List Value), v = .slice (some ⟨b, 0, none⟩) n cap ∧ (b, .cells cs.toArray e (0, 0)) ∈ L ∧ n ≤ cap ∧ cap ≤ maxLen ∧ cs.length = cap ∧ cs.take n = xs)
theorem appendI {t ty e : TypeId} {z : Value} {size bytes n m c : Nat} {M : Own} {v : Value} {xs news : List Value} {a : Addr} {K : Value → World → Own → Prop}
    (ht : P.underlying t = some (.slice e)) (hi : (P.info? e).map (fun i => (i.zero, i.size, i.bytes)) = some (some z, size, bytes)) (hzs : z.cells.size = size)
    (hrow : RowO wb e size L M v n xs) (hl : news.length = m * size) (hr : CanRead wb L a news) (h1 : ∀ u ∈ news, u.oneCell' = true) (h63 : n + m ≤ maxLen) (hbytes : (n + m) * bytes ≤ 140737488355328)
    (hK : ∀ v' L', RowO wb e size L' M v' (n + m) (xs ++ news) → (v' = .slice none 0 0 ↔ v = .slice none 0 0 ∧ m = 0) → K v' wb L') : ValX P (Builtin.append_ #[t, t] ty #[v, .slice (some a) m c]) wb L (tag K) := by
  cases hh : P.info? e with
  | none => rw [hh] at hi; cases hi
  | some inf =>
    rw [hh] at hi
    simp only [Option.map_some, Option.some.injEq, Prod.mk.injEq] at hi
    exact appendX ht hh hi.1 hi.2.1 hi.2.2 hzs hrow hl hr h1 h63 hbytes hK
/-- A row out of what is owned can be read. -/
theorem CanRead.of_own {b : Nat} {cs news : List Value} {e : TypeId} (hm : (b, .cells cs.toArray e (0, 0)) ∈ L) {n : Nat} (hn : news.length = n) (h : cs.take n = news) : CanRead wb L ⟨b, 0, none⟩ news := fun w hw j v hj => by
  subst hn
  have ha : (⟨b, 0, none⟩ : Addr).add j = ⟨b, j, none⟩ := by
    unfold Addr.add; split
    · rename_i h0; subst h0; rfl
    · simp
  rw [ha]
  simp only [World.cell?, hw.own b _ hm]
  rw [← h, List.getElem?_take] at hj
  split at hj
  · simpa using hj
  · cases hj
/-- Beside a row there may lie another block. -/
theorem RowO.over {e : TypeId} {size n : Nat} {L' M : Own} {v : Value} {xs : List Value} (p : Nat × Obj) (h : RowO wb e size L' M v n xs) : ∃ L'', RowO wb e size L'' (p :: M) v n xs ∧ ∀ w, Sy wb (p :: L') w → Sy wb L'' w := by
  obtain ⟨h0, ⟨h1, h2, h3⟩ | ⟨b, cap, cs, h1, h2, h3⟩⟩ := h
  · subst h3; exact ⟨p :: L', ⟨h0, .inl ⟨h1, h2, rfl⟩⟩, fun w hw => hw⟩
  · subst h2; exact ⟨_, ⟨h0, .inr ⟨b, cap, cs, h1, rfl, h3⟩⟩, fun w hw => hw.perm (List.Perm.swap ..)⟩
theorem RowO.mem {e : TypeId} {size n : Nat} {L' M : Own} {v : Value} {xs : List Value} (h : RowO wb e size L' M v n xs) {p : Nat × Obj} (hp : p ∈ M) : p ∈ L' := by
  obtain ⟨h0, ⟨h1, h2, h3⟩ | ⟨b, cap, cs, h1, h2, h3⟩⟩ := h
  · subst h3; exact hp
  · subst h2; exact .tail _ hp
theorem RowIn.mono {e : TypeId} {n : Nat} {M L' : Own} {v : Value} {xs : List Value} (h : RowIn M e v n xs) (hs : ∀ p, p ∈ M → p ∈ L') : RowIn L' e v n xs := by
  obtain ⟨h0, h1 | ⟨b, cap, cs, h1, h2, h3⟩⟩ := h
  · exact ⟨h0, .inl h1⟩
  · exact ⟨h0, .inr ⟨b, cap, cs, h1, hs _ h2, h3⟩⟩
theorem callX_own {f : FuncId} {args : Array Value} {S : Value → Own → Prop} {K : Value → World → Own → Prop} {Kp : KP} (h : ∀ w, Sy wb L w → Calls P f args w (fun e w' => ∃ v L', e = .returned v ∧ Sy wb L' w' ∧ S v L'))
    (hk : ∀ v L', S v L' → K v wb L') : CallX P f args wb L (tag K) (tag Kp) := fun w hw => (h w hw).mono fun e w' ⟨v, L', he, hs, hS⟩ => by
  subst he; exact ⟨wb, L', hs, hk v L' hS⟩
/-- A call that answers yes or no. -/
theorem callX_two {f : FuncId} {args : Array Value} {K : Value → World → Own → Prop} {Kp : KP} (T F : Own → Prop)
    (h : ∀ w, Sy wb L w → Calls P f args w (fun e w' => (e = .returned (.bool true) ∧ ∃ L', T L' ∧ Sy wb L' w') ∨ (e = .returned (.bool false) ∧ ∃ L', F L' ∧ Sy wb L' w')))
    (hT : ∀ L', T L' → K (.bool true) wb L') (hF : ∀ L', F L' → K (.bool false) wb L') : CallX P f args wb L (tag K) (tag Kp) := fun w hw => (h w hw).mono fun e w' hq => by
  rcases hq with ⟨rfl, L', h1, h2⟩ | ⟨rfl, L', h1, h2⟩
  · exact ⟨wb, L', h2, hT L' h1⟩
  · exact ⟨wb, L', h2, hF L' h1⟩
theorem callV_two {c : Cfg} {fo : Operand} {as : Array Operand} {ats : Array TypeId} {d : Option Nat} {ty : TypeId} {pos : String} {af : Array Edge} {g : Option (Nat × Bool)} {f : Value} {args : Array Value}
    {e : Env} {ds : List Deferred} {K : Value → World → Own → Prop} {Kp : KP} (T F : Own → Prop) (hf : ev e fo = f) (ha : as.map (ev e) = args) (hen : ∀ g first cap, f = .func (.func g) first cap → entersB c.P g = true)
    (h : ∀ w, Sy wb L w → CallsV c.P f args w (fun e w' => (e = .returned (.bool true) ∧ ∃ L', T L' ∧ Sy wb L' w') ∨ (e = .returned (.bool false) ∧ ∃ L', F L' ∧ Sy wb L' w')))
    (hT : ∀ L', T L' → K (.bool true) wb L') (hF : ∀ L', F L' → K (.bool false) wb L') : CallV c f args (tag ⟨d, .call ⟨.value fo, as, ats⟩, ty, pos, af, g⟩) wb e ds L (tag K) (tag Kp) := by
  refine callVX hf ha hen (fun w hw => (h w hw).mono fun en w' hq => ?_)
  rcases hq with ⟨rfl, L', h1, h2⟩ | ⟨rfl, L', h1, h2⟩
  · exact ⟨wb, L', h2, hT L' h1⟩
  · exact ⟨wb, L', h2, hF L' h1⟩
theorem nd_here (d : Nat) (path : List Nat) (ind : Bool) (l : List Fld) (i : Nat) (f : Fld) (hf : l[i]? = some f) : (nd (d + 1) path ind l)[(ndAt d path ind l i).length]? = some ⟨path ++ [i], l.take i, f, ind⟩ := by
  obtain ⟨t, ht⟩ := nd_prefix d path ind l (i + 1)
  rw [← ht, ndAt_succ d path ind l i f hf]
  simp
theorem nd_within (d : Nat) (path : List Nat) (ind : Bool) (l : List Fld) (i : Nat) (f : Fld) (hf : l[i]? = some f) (j : Nat) (x : FNode) (hx : (nd d (path ++ [i]) (ind || f.k == 19) f.sub)[j]? = some x) :
    (nd (d + 1) path ind l)[(ndAt d path ind l i).length + 1 + j]? = some x := by
  obtain ⟨t, ht⟩ := nd_prefix d path ind l (i + 1)
  rw [← ht, ndAt_succ d path ind l i f hf]
  have hj := (List.getElem?_eq_some_iff.1 hx).1
  rw [List.getElem?_append_left (by simp; omega), List.getElem?_append_right (by omega)]
  rw [show (ndAt d path ind l i).length + 1 + j - (ndAt d path ind l i).length = j + 1 by omega]
  simpa using hx
/-- What is not asked for any more is left. -/
theorem Sy.left {w : World} {A B : Own} (h : Sy wb (A ++ B) w) (hA : ∀ p ∈ A, wb.heap.size ≤ p.1) : Sy wb B w :=
  h.drop (List.sublist_append_right A B) fun p hp => by
    rcases List.mem_append.1 hp with hp | hp
    · exact .inr (hA p hp)
    · exact .inl hp
theorem Sy.mid {w : World} (A B : Own) {C : Own} (h : Sy wb (A ++ (B ++ C)) w) (hB : ∀ p ∈ B, wb.heap.size ≤ p.1) : Sy wb (A ++ C) w :=
  h.drop ((List.sublist_append_right B C).append_left A) fun p hp => by
    simp only [List.mem_append] at hp ⊢
    rcases hp with hp | hp | hp
    · exact .inl (.inl hp)
    · exact .inr (hB p hp)
    · exact .inl (.inr hp)
theorem makeMapX {t : TypeId} {K : Value → World → Own → Prop} (h : NewX wb L (.map #[] 0) (tag fun b L => K (.map (some b)) wb L)) : ValX P (Instr.makeMap t none) wb L (tag K) :=
  valX_new (f := fun b => .map (some b)) (o := .map #[] 0) (fun w => by simp [Instr.makeMap]) h
theorem callX_newR {f : FuncId} {args : Array Value} {S : Value → Own → Prop} {K : Value → World → Own → Prop} {Kp : KP} (h : ∀ w, Sy wb L w → Calls P f args w (RetsN w S))
    (hk : ∀ v M, (∀ p ∈ M, wb.heap.size ≤ p.1) → (∀ p ∈ M, p.1 ∉ L.map (·.1)) → S v M → K v wb (L ++ M)) : CallX P f args wb L (tag K) (tag Kp) := fun w hw =>
  (h w hw).mono fun e w' ⟨v, M, he, hs, hM, hS⟩ => by
    subst he
    refine ⟨wb, L ++ M, (hw.add hs hM).perm List.perm_append_comm, hk v M (fun p hp => Nat.le_trans hw.size (hM p hp)) (fun p hp hm => ?_) hS⟩
    obtain ⟨q, hq, e⟩ := List.mem_map.1 hm
    have h1 := hM p hp
    have h2 := hw.lt hq
    omega
/-- Of the slots only this is kept. -/
theorem forgetS {c : Cfg} {code : Code} {Q : Post} {e : Env} {ds : List Deferred} (F : Env → Prop) (hF : F e) (h : ∀ e, F e → SemT c (tag code) (tag Q) wb e ds L) : SemT c (tag code) (tag Q) wb e ds L := h e hF
theorem rangeY {c : Cfg} {fo : Operand} {ps : List Nat} {A B : Code} {Q : Post} {e : Env} {ds : List Deferred} {g : FuncId} {first cap : Array Value} (hc : c.r = none) (hf : ev e fo = .func (.func g) first cap) (hen : entersB c.P g = true)
    (h : ∀ fn tm d l rec, rec = (⟨.ready, none, fn, tm, ps.toArray, A, B, d⟩ : Loop) → Rep c.n { tmps := tm, defers := [] } e [] → d ≠ l → wb.heap.size ≤ d → wb.heap.size ≤ l → d ∉ L.map (·.1) → l ∉ L.map (·.1) → ∀ w, Sy wb ((l, .loop rec) :: (d, .deferred (some [])) :: L) w →
      Calls c.P g (first ++ #[.func (.yield l) #[] #[]] ++ cap) w (loopEnd l Q e ({ target := .collected d, args := #[] } :: ds))) :
    SemT c (tag (.rangeFunc fo ps.toArray A B)) (tag Q) wb e ds L :=
  rangeX hc hf hen (fun fn tm d l h1 h2 h3 h4 h5 h6 w hw => h fn tm d l _ rfl h1 h2 h3 h4 h5 h6 w hw)
@[push_cast] theorem putL_zip (e : Env) (t : Nat) (v : Value) (ps : List Nat) (vs : List Value) : putL e ((t :: ps).zip (v :: vs)) = putL (upd e t v) (ps.zip vs) := (rfl)
@[push_cast] theorem putL_zip0 (e : Env) : putL e (([] : List Nat).zip ([] : List Value)) = e := (rfl)
section jumps
variable (Q : Post) (x : Exit) (e : Env) (ds : List Deferred)
@[push_cast] theorem jumpP_none : jumpP Q none x wb e ds L = Q .normal wb e ds L := (rfl)
@[push_cast] theorem jumpP_ret : jumpP Q (some .ret) x wb e ds L = Q .ret wb e ds L := (rfl)
@[push_cast] theorem jumpP_exit (id : Nat) : jumpP Q (some (.exit id)) x wb e ds L = Q (.exit id) wb e ds L := (rfl)
end jumps
section marks
variable (c : Cfg) (e : Env) (ds : List Deferred) {rs : List ResultVar} {R : Ending → World → Prop} (P)
@[push_cast] theorem retM_ret : retM P rs (tag R) .ret wb e ds L = leaveL P rs R ds wb e L := (rfl)
@[push_cast] theorem retM_normal : retM P rs (tag R) .normal wb e ds L = leaveL P rs R ds wb e L := (rfl)
@[push_cast] theorem leaveL_nil : leaveL P rs R [] wb e L = ResL P wb L e rs fun vs => ∀ w, Sy wb L w → R (.returned (tup vs)) w := (rfl)
@[push_cast] theorem roundP_normal (l : Nat) : roundP l (tag R) .normal wb e ds L = ended l L wb none R := (rfl)
@[push_cast] theorem roundP_ret (l : Nat) : roundP l (tag R) .ret wb e ds L = ended l L wb (some .ret) R := (rfl)
@[push_cast] theorem roundP_exit (l id : Nat) : roundP l (tag R) (.exit id) wb e ds L = ended l L wb (some (.exit id)) R := (rfl)
end marks
end Go.K
