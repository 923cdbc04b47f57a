/- YtdmdgkpjjpijdaaGreatDoor: walks, part 8: what is asked of schemas and fields. -/
import Derived.Test.YtdmdgkpjjpijdaaGreatDoorW7
namespace Go.Proofs.YtdmdgkpjjpijdaaGreatDoor
open Go Go.K
set_option maxRecDepth 100000
set_option linter.unusedVariables false
set_option linter.unusedSimpArgs false
set_option maxHeartbeats 4000000
abbrev schV (a : Option Addr) (l : List Fld) (c : Nat) (na : Option Addr) (nt : List NoteT) (nc : Nat) : Value := .agg #[.slice a l.length c,.slice na nt.length nc]
structure SchAt (w : World) (lo : Nat) (a : Option Addr) (l : List Fld) (c : Nat) (na : Option Addr) (nt : List NoteT) (nc : Nat) : Prop where
  hr : Rd w lo a l
  hc : l.length ≤ c
  hc2 : c ≤ 9223372036854775807
  hn : RdN w lo na nt
  hnc : nt.length ≤ nc
  hnc2 : nc ≤ 9223372036854775807
theorem RdN.mono {w w' : World} {lo : Nat} {a : Option Addr} {l : List NoteT} (h : RdN w lo a l) (hw : ∀ k,k < lo → w'.heap[k]? = w.heap[k]?) : RdN w' lo a l := by
  rcases h with rfl | ⟨b,off,rfl,hb,h⟩
  · exact .inl rfl
  · exact .inr ⟨b,off,rfl,hb,fun i n hi => let ⟨h1,h2,h3⟩ := h i n hi; ⟨h1,h2,h3.of_block (hw _ hb)⟩⟩
theorem SchAt.sy {w w' : World} {lo : Nat} {a : Option Addr} {l : List Fld} {c : Nat} {na : Option Addr} {nt : List NoteT} {nc : Nat} {M : Own} (h : SchAt w lo a l c na nt nc) (hlo : lo ≤ w.heap.size) (hs : Sy w M w') (hM : ∀ p ∈ M,lo ≤ p.1) : SchAt w' lo a l c na nt nc :=
  ⟨h.hr.sy hlo hs hM,h.hc,h.hc2,h.hn.mono fun k hk => hs.rest k (Nat.lt_of_lt_of_le hk hlo) (fun hm => by obtain ⟨p,hp,e⟩ := List.mem_map.1 hm; have := hM p hp; omega),h.hnc,h.hnc2⟩
def mayP (l : List Fld) (nt : List NoteT) : Bool := (checkP l nt).1 == 0
theorem may_walk (w : World) (hs : SaysAt w) (lo : Nat) (hlo : lo ≤ w.heap.size) (a : Option Addr) (l : List Fld) (c : Nat) (na : Option Addr) (nt : List NoteT) (nc : Nat) (h : SchAt w lo a l c na nt nc) :
    Calls Tryz.prog 56 #[schV a l c na nt nc] w (Rets w (Is (.bool (mayP l nt)))) := by
  refine enterT (args := [schV a l c na nt nc]) Tryz.func56 rfl Tryz.ntmps56 (congrArg Array.toList Tryz.results56) (by kernel_rfl) (by simp) (Sy.refl w) ?_
  simp (disch:=omega) only[push_cast,Nat.reduceEqDiff,schV]
  refine newI (fun b1 hb1 hn1 => ?_)
  have hL : ∀ p ∈ [(b1,Obj.cells #[.slice a l.length c,.slice na nt.length nc] 27 (0,0))],w.heap.size ≤ p.1 := by
    intro p hp; rw [List.mem_singleton.1 hp]; exact hb1
  simp (disch:=omega) only[push_cast,Nat.reduceEqDiff]
  repeat' (first | ((first | refine guardX_t rfl (fun h => ?_) (fun h => ?_) | refine guardX_f rfl (fun h => ?_) (fun h => ?_) | refine condX_d (fun h => ?_) (fun h => ?_) | (refine guardX_bt rfl (fun h => ?_) (fun h => ?_) <;> (try subst h)) | (refine guardX_bf rfl (fun h => ?_) (fun h => ?_) <;> (try subst h)) | (refine condX_b (fun h => ?_) (fun h => ?_) <;> (try subst h)) | refine ldOne Shp.eq (by (first | exact mem0 | exact mem1 | exact mem2 | exact mem3)) rfl ?_ | refine loadX_agg Shp.eq (by (first | exact mem0 | exact mem1 | exact mem2 | exact mem3)) rfl rfl ?_ | refine newI (fun b hb hn => ?_) | refine storeX 0 rfl Siz.eq rfl rfl (by simp [Value.oneCell']) (by simp) ?_ | refine storeX 1 rfl Siz.eq rfl rfl (by simp [Value.oneCell']) (by simp) ?_ | refine storeX 2 rfl Siz.eq rfl rfl (by simp [Value.oneCell']) (by simp) ?_ | refine storeX 3 rfl Siz.eq rfl rfl (by simp [Value.oneCell']) (by simp) ?_) <;> simp (disch:=omega) only[push_cast,Nat.reduceEqDiff]))
  have h' := fun w' hw' => h.sy hlo (w' := w') hw' (fun p hp => Nat.le_trans hlo (hL p hp))
  refine callV en_17 (callX_new (fun w' hw' => check_walk w' (hs.mono hw' hL) lo (Nat.le_trans hlo hw'.size) l a c (h' w' hw').hr h.hc h.hc2 nt na nc (h' w' hw').hn h.hnc h.hnc2) (fun v M hM hMn ⟨pa,pc,hv,hrow,_⟩ => ?_))
  subst hv
  simp (disch:=omega) only[push_cast,Nat.reduceEqDiff]
  refine finIs (fun p hp => ?_) ?_
  · rcases List.mem_append.1 hp with hp | hp
    · exact hM p hp
    · exact hL p hp
  · unfold mayP; rfl
theorem checkField_walk (w : World) (hs : SaysAt w) (lo : Nat) (hlo : lo ≤ w.heap.size) (f : Fld) (a : Option Addr) (c : Nat) (hf : Rd w lo a f.sub) (hfc : f.sub.length ≤ c) (hc2 : c ≤ 9223372036854775807) (hfn : f.nm.length ≤ 9223372036854775807) :
    Calls Tryz.prog 49 #[.agg #[str f.nm,.bool f.nl,i64 f.k,i64 f.wd,i64 f.id,i64 f.ix,.slice a f.sub.length c]] w (RetsN w (fun v M => ∃ pa pc,v = .agg #[i64 (checkP [f] []).1,.slice pa (checkP [f] []).2.1.tail.length pc,i64 (checkP [f] []).2.2] ∧ (pa = none ∧ pc = 0 ∧ (checkP [f] []).2.1 = [] ∨ ∃ b cap cs,pa = some ⟨b,if cap = 1 then 0 else 1,none⟩ ∧ pc = cap - 1 ∧ (b,.cells cs 3 (0,0)) ∈ M ∧ RowIn [(b,.cells cs 3 (0,0))] 3 (.slice (some ⟨b,0,none⟩) (checkP [f] []).2.1.length cap) (checkP [f] []).2.1.length (ints (checkP [f] []).2.1)))) := by
  refine enterT (args := [.agg #[str f.nm,.bool f.nl,i64 f.k,i64 f.wd,i64 f.id,i64 f.ix,.slice a f.sub.length c]]) Tryz.func49 rfl Tryz.ntmps49 (congrArg Array.toList Tryz.results49) (by kernel_rfl) (by simp) (Sy.refl w) ?_
  simp (disch:=omega) only[push_cast,Nat.reduceEqDiff]
  refine newI (fun b1 hb1 hn1 => ?_)
  simp (disch:=omega) only[push_cast,Nat.reduceEqDiff]
  refine newI (fun b2 hb2 hn2 => ?_)
  simp (disch:=omega) only[push_cast,Nat.reduceEqDiff]
  refine loadX_agg sh_37 (.tail _ (.head _)) rfl rfl ?_
  simp (disch:=omega) only[push_cast,Nat.reduceEqDiff]
  refine bs_24_1 (newI fun b3 hb3 hn3 => ?_)
  have hL : ∀ p ∈ [(b3,Obj.cells #[str f.nm,.bool f.nl,i64 f.k,i64 f.wd,i64 f.id,i64 f.ix,.slice a f.sub.length c] 37 (0,0)),(b2,Obj.cells #[.int .i64 0,.slice none 0 0,.int .i64 0] 51 (0,0)),(b1,Obj.cells #[str f.nm,.bool f.nl,i64 f.k,i64 f.wd,i64 f.id,i64 f.ix,.slice a f.sub.length c] 37 (0,0))],w.heap.size ≤ p.1 := by
    intro p hp
    simp only [List.mem_cons,List.mem_nil_iff,or_false] at hp
    rcases hp with rfl | rfl | rfl <;> assumption
  simp (disch:=omega) only[push_cast,Nat.reduceEqDiff]
  refine callV en_17 (callX_newR (fun w' hw' => check_walk w' (hs.mono hw' hL) w'.heap.size (Nat.le_refl _) [f] (some ⟨b3,0,none⟩) 1 (.cons (hw'.lt (.head _)) hfc hfn hc2 (At.of_own hw' (.head _) rfl) ((hf.sy hlo hw' (fun p hp => Nat.le_trans hlo (hL p hp))).weaken (Nat.le_trans hlo hw'.size)) (.nil _)) (by simp) (by omega) [] none 0 (.inl rfl) (by simp) (by omega)) (fun v M hM hMn ⟨pa,pc,hv,hrow,hnil⟩ => ?_))
  subst hv
  simp (disch:=omega) only[push_cast,Nat.reduceEqDiff]
  refine newI (fun b4 hb4 hn4 => ?_)
  simp (disch:=omega) only[push_cast,Nat.reduceEqDiff]
  repeat' (first | ((first | refine guardX_t rfl (fun h => ?_) (fun h => ?_) | refine guardX_f rfl (fun h => ?_) (fun h => ?_) | refine condX_d (fun h => ?_) (fun h => ?_) | (refine guardX_bt rfl (fun h => ?_) (fun h => ?_) <;> (try subst h)) | (refine guardX_bf rfl (fun h => ?_) (fun h => ?_) <;> (try subst h)) | (refine condX_b (fun h => ?_) (fun h => ?_) <;> (try subst h)) | refine ldOne Shp.eq (by (first | exact mem0 | exact mem1 | exact mem2 | exact mem3)) rfl ?_ | refine loadX_agg Shp.eq (by (first | exact mem0 | exact mem1 | exact mem2 | exact mem3)) rfl rfl ?_ | refine newI (fun b hb hn => ?_) | refine storeX 0 rfl Siz.eq rfl rfl (by simp [Value.oneCell']) (by simp) ?_ | refine storeX 1 rfl Siz.eq rfl rfl (by simp [Value.oneCell']) (by simp) ?_ | refine storeX 2 rfl Siz.eq rfl rfl (by simp [Value.oneCell']) (by simp) ?_ | refine storeX 3 rfl Siz.eq rfl rfl (by simp [Value.oneCell']) (by simp) ?_) <;> simp (disch:=omega) only[push_cast,Nat.reduceEqDiff]))
  generalize checkP [f] [] = r at *
  have hnew : ∀ (x y z u : Obj),∀ p ∈ [(b4,x),(b3,y),(b2,z),(b1,u)],w.heap.size ≤ p.1 := by
    intro x y z u p hp
    simp only [List.mem_cons,List.mem_nil_iff,or_false] at hp
    rcases hp with rfl | rfl | rfl | rfl <;> assumption
  rw [V_cond]
  simp (disch:=omega) only[push_cast,Nat.reduceEqDiff]
  refine condX_d (fun hpos => ?_) (fun hneg => ?_)
  · obtain ⟨_,⟨he,h0⟩ | ⟨b,cap,cs,he,hm,h1,h2,h3,h4⟩⟩ := hrow
    · omega
    injection he with he1 he2 he3
    subst he1; subst he3
    simp (disch:=omega) only[push_cast,Nat.reduceEqDiff]
    repeat' (first | ((first | refine guardX_t rfl (fun h => ?_) (fun h => ?_) | refine guardX_f rfl (fun h => ?_) (fun h => ?_) | refine condX_d (fun h => ?_) (fun h => ?_) | (refine guardX_bt rfl (fun h => ?_) (fun h => ?_) <;> (try subst h)) | (refine guardX_bf rfl (fun h => ?_) (fun h => ?_) <;> (try subst h)) | (refine condX_b (fun h => ?_) (fun h => ?_) <;> (try subst h)) | refine ldOne Shp.eq (by (first | exact mem0 | exact mem1 | exact mem2 | exact mem3)) rfl ?_ | refine loadX_agg Shp.eq (by (first | exact mem0 | exact mem1 | exact mem2 | exact mem3)) rfl rfl ?_ | refine newI (fun b hb hn => ?_) | refine storeX 0 rfl Siz.eq rfl rfl (by simp [Value.oneCell']) (by simp) ?_ | refine storeX 1 rfl Siz.eq rfl rfl (by simp [Value.oneCell']) (by simp) ?_ | refine storeX 2 rfl Siz.eq rfl rfl (by simp [Value.oneCell']) (by simp) ?_ | refine storeX 3 rfl Siz.eq rfl rfl (by simp [Value.oneCell']) (by simp) ?_) <;> simp (disch:=omega) only[push_cast,Nat.reduceEqDiff]))
    refine fun w' hw' => ⟨_,M,rfl,hw'.left (A := [_,_,_,_]) (hnew _ _ _ _),hM,some ⟨b,if pc = 1 then 0 else 1,none⟩,pc - 1,?_,.inr ⟨b,pc,cs.toArray,rfl,rfl,hm,?_⟩⟩
    · rw [List.length_tail]
    · exact ⟨by simp [ints],.inr ⟨b,pc,cs,rfl,.head _,h1,h2,h3,h4⟩⟩
  · simp (disch:=omega) only[push_cast,Nat.reduceEqDiff]
    repeat' (first | ((first | refine guardX_t rfl (fun h => ?_) (fun h => ?_) | refine guardX_f rfl (fun h => ?_) (fun h => ?_) | refine condX_d (fun h => ?_) (fun h => ?_) | (refine guardX_bt rfl (fun h => ?_) (fun h => ?_) <;> (try subst h)) | (refine guardX_bf rfl (fun h => ?_) (fun h => ?_) <;> (try subst h)) | (refine condX_b (fun h => ?_) (fun h => ?_) <;> (try subst h)) | refine ldOne Shp.eq (by (first | exact mem0 | exact mem1 | exact mem2 | exact mem3)) rfl ?_ | refine loadX_agg Shp.eq (by (first | exact mem0 | exact mem1 | exact mem2 | exact mem3)) rfl rfl ?_ | refine newI (fun b hb hn => ?_) | refine storeX 0 rfl Siz.eq rfl rfl (by simp [Value.oneCell']) (by simp) ?_ | refine storeX 1 rfl Siz.eq rfl rfl (by simp [Value.oneCell']) (by simp) ?_ | refine storeX 2 rfl Siz.eq rfl rfl (by simp [Value.oneCell']) (by simp) ?_ | refine storeX 3 rfl Siz.eq rfl rfl (by simp [Value.oneCell']) (by simp) ?_) <;> simp (disch:=omega) only[push_cast,Nat.reduceEqDiff]))
    have hr0 : r.2.1 = [] := List.eq_nil_of_length_eq_zero (by omega)
    obtain ⟨rfl,rfl⟩ := hnil hr0
    refine fun w' hw' => ⟨_,M,rfl,hw'.left (A := [_,_,_,_]) (hnew _ _ _ _),hM,none,0,?_,.inl ⟨rfl,rfl,hr0⟩⟩
    rw [hr0]
    rfl
theorem one_walk (w : World) (nm : List UInt8) : Calls Tryz.prog 30 #[str nm] w (Rets w (Is (.agg #[str nm,.bool false,i64 6,i64 0,i64 0,i64 0,.slice none 0 0]))) := by
  refine enterT (args := [str nm]) Tryz.func30 rfl Tryz.ntmps30 (congrArg Array.toList Tryz.results30) (by kernel_rfl) (by simp) (Sy.refl w) ?_
  simp (disch:=omega) only[push_cast,Nat.reduceEqDiff]
  repeat' (first | ((first | refine guardX_t rfl (fun h => ?_) (fun h => ?_) | refine guardX_f rfl (fun h => ?_) (fun h => ?_) | refine condX_d (fun h => ?_) (fun h => ?_) | (refine guardX_bt rfl (fun h => ?_) (fun h => ?_) <;> (try subst h)) | (refine guardX_bf rfl (fun h => ?_) (fun h => ?_) <;> (try subst h)) | (refine condX_b (fun h => ?_) (fun h => ?_) <;> (try subst h)) | refine ldOne Shp.eq (by (first | exact mem0 | exact mem1 | exact mem2 | exact mem3)) rfl ?_ | refine loadX_agg Shp.eq (by (first | exact mem0 | exact mem1 | exact mem2 | exact mem3)) rfl rfl ?_ | refine newI (fun b hb hn => ?_) | refine storeX 0 rfl Siz.eq rfl rfl (by simp [Value.oneCell']) (by simp) ?_ | refine storeX 1 rfl Siz.eq rfl rfl (by simp [Value.oneCell']) (by simp) ?_ | refine storeX 2 rfl Siz.eq rfl rfl (by simp [Value.oneCell']) (by simp) ?_ | refine storeX 3 rfl Siz.eq rfl rfl (by simp [Value.oneCell']) (by simp) ?_) <;> simp (disch:=omega) only[push_cast,Nat.reduceEqDiff]) | (first | rw [V_cond] | rw [V_block]) <;> (try simp (disch:=omega) only[push_cast,Nat.reduceEqDiff]))
  exact finIs (by simp only [List.mem_singleton]; rintro p rfl; assumption) rfl
theorem find1_walk (w : World) (f : Fld) (a : Option Addr) (c : Nat) (bp : Nat) (nm : List UInt8) (h : At w bp 0 [str nm]) :
    Calls Tryz.prog 70 #[.agg (f.cells a c).toArray,.pointer (some ⟨bp,0,none⟩)] w (Rets w (Is (.bool (decide (f.nm = nm))))) := by
  refine enterT (args := [.agg (f.cells a c).toArray,.pointer (some ⟨bp,0,none⟩)]) Tryz.func70 rfl Tryz.ntmps70 (congrArg Array.toList Tryz.results70) (by kernel_rfl) (by simp) (Sy.refl w) ?_
  have hlt := h.lt
  simp (disch:=omega) only[push_cast,Nat.reduceEqDiff,Fld.cells]
  repeat' (first | ((first | refine guardX_t rfl (fun h => ?_) (fun h => ?_) | refine guardX_f rfl (fun h => ?_) (fun h => ?_) | refine condX_d (fun h => ?_) (fun h => ?_) | (refine guardX_bt rfl (fun h => ?_) (fun h => ?_) <;> (try subst h)) | (refine guardX_bf rfl (fun h => ?_) (fun h => ?_) <;> (try subst h)) | (refine condX_b (fun h => ?_) (fun h => ?_) <;> (try subst h)) | refine ldOne Shp.eq (by (first | exact mem0 | exact mem1 | exact mem2 | exact mem3)) rfl ?_ | refine loadX_agg Shp.eq (by (first | exact mem0 | exact mem1 | exact mem2 | exact mem3)) rfl rfl ?_ | refine newI (fun b hb hn => ?_) | refine storeX 0 rfl Siz.eq rfl rfl (by simp [Value.oneCell']) (by simp) ?_ | refine storeX 1 rfl Siz.eq rfl rfl (by simp [Value.oneCell']) (by simp) ?_ | refine storeX 2 rfl Siz.eq rfl rfl (by simp [Value.oneCell']) (by simp) ?_ | refine storeX 3 rfl Siz.eq rfl rfl (by simp [Value.oneCell']) (by simp) ?_) <;> simp (disch:=omega) only[push_cast,Nat.reduceEqDiff]) | (first | rw [V_cond] | rw [V_block]) <;> (try simp (disch:=omega) only[push_cast,Nat.reduceEqDiff]))
  refine ldF (by exact sh_9) h (out_of (by simp only [List.mem_singleton]; rintro p rfl; simp only; omega)) ?_
  simp (disch:=omega) only[push_cast,Nat.reduceEqDiff]
  exact finIs (by simp only [List.mem_singleton]; rintro p rfl; assumption) rfl
def findP (l : List Fld) (nt : List NoteT) (nm : List UInt8) : Int := if mayP l nt then idxF (fun f => decide (f.nm = nm)) l else -1
theorem find_walk (w : World) (hs : SaysAt w) (lo : Nat) (hlo : lo ≤ w.heap.size) (a : Option Addr) (l : List Fld) (c : Nat) (na : Option Addr) (nt : List NoteT) (nc : Nat) (h : SchAt w lo a l c na nt nc) (nm : List UInt8) :
    Calls Tryz.prog 31 #[schV a l c na nt nc,str nm] w (Rets w (Is (i64 (findP l nt nm)))) := by
  refine enterT (args := [schV a l c na nt nc,str nm]) Tryz.func31 rfl Tryz.ntmps31 (congrArg Array.toList Tryz.results31) (by kernel_rfl) (by simp) (Sy.refl w) ?_
  simp (disch:=omega) only[push_cast,Nat.reduceEqDiff,schV]
  refine newI (fun b1 hb1 hn1 => ?_)
  simp (disch:=omega) only[push_cast,Nat.reduceEqDiff]
  refine newI (fun b2 hb2 hn2 => ?_)
  have hL : ∀ p ∈ [(b2,Obj.cells #[str nm] 9 (0,0)),(b1,Obj.cells #[.slice a l.length c,.slice na nt.length nc] 27 (0,0))],w.heap.size ≤ p.1 := by
    intro p hp
    simp only [List.mem_cons,List.mem_nil_iff,or_false] at hp
    rcases hp with rfl | rfl <;> assumption
  simp (disch:=omega) only[push_cast,Nat.reduceEqDiff]
  repeat' (first | ((first | refine guardX_t rfl (fun h => ?_) (fun h => ?_) | refine guardX_f rfl (fun h => ?_) (fun h => ?_) | refine condX_d (fun h => ?_) (fun h => ?_) | (refine guardX_bt rfl (fun h => ?_) (fun h => ?_) <;> (try subst h)) | (refine guardX_bf rfl (fun h => ?_) (fun h => ?_) <;> (try subst h)) | (refine condX_b (fun h => ?_) (fun h => ?_) <;> (try subst h)) | refine ldOne Shp.eq (by (first | exact mem0 | exact mem1 | exact mem2 | exact mem3)) rfl ?_ | refine loadX_agg Shp.eq (by (first | exact mem0 | exact mem1 | exact mem2 | exact mem3)) rfl rfl ?_ | refine newI (fun b hb hn => ?_) | refine storeX 0 rfl Siz.eq rfl rfl (by simp [Value.oneCell']) (by simp) ?_ | refine storeX 1 rfl Siz.eq rfl rfl (by simp [Value.oneCell']) (by simp) ?_ | refine storeX 2 rfl Siz.eq rfl rfl (by simp [Value.oneCell']) (by simp) ?_ | refine storeX 3 rfl Siz.eq rfl rfl (by simp [Value.oneCell']) (by simp) ?_) <;> simp (disch:=omega) only[push_cast,Nat.reduceEqDiff]))
  have h' := fun w' hw' => h.sy hlo (w' := w') hw' (fun p hp => Nat.le_trans hlo (hL p hp))
  refine callV en_56 (callX_is (fun w' hw' => may_walk w' (hs.mono hw' hL) lo (Nat.le_trans hlo hw'.size) a l c na nt nc (h' w' hw')) ?_)
  simp (disch:=omega) only[push_cast,Nat.reduceEqDiff]
  rw [V_cond]
  simp (disch:=omega) only[push_cast,Nat.reduceEqDiff]
  refine condX_b (fun hm => ?_) (fun hm => ?_)
  · have hm' : mayP l nt = false := by simpa using hm
    simp (disch:=omega) only[push_cast,Nat.reduceEqDiff]
    exact finIs hL (by simp [findP,hm'])
  · have hm' : mayP l nt = true := by simpa using hm
    simp (disch:=omega) only[push_cast,Nat.reduceEqDiff]
    repeat' (first | ((first | refine guardX_t rfl (fun h => ?_) (fun h => ?_) | refine guardX_f rfl (fun h => ?_) (fun h => ?_) | refine condX_d (fun h => ?_) (fun h => ?_) | (refine guardX_bt rfl (fun h => ?_) (fun h => ?_) <;> (try subst h)) | (refine guardX_bf rfl (fun h => ?_) (fun h => ?_) <;> (try subst h)) | (refine condX_b (fun h => ?_) (fun h => ?_) <;> (try subst h)) | refine ldOne Shp.eq (by (first | exact mem0 | exact mem1 | exact mem2 | exact mem3)) rfl ?_ | refine loadX_agg Shp.eq (by (first | exact mem0 | exact mem1 | exact mem2 | exact mem3)) rfl rfl ?_ | refine newI (fun b hb hn => ?_) | refine storeX 0 rfl Siz.eq rfl rfl (by simp [Value.oneCell']) (by simp) ?_ | refine storeX 1 rfl Siz.eq rfl rfl (by simp [Value.oneCell']) (by simp) ?_ | refine storeX 2 rfl Siz.eq rfl rfl (by simp [Value.oneCell']) (by simp) ?_ | refine storeX 3 rfl Siz.eq rfl rfl (by simp [Value.oneCell']) (by simp) ?_) <;> simp (disch:=omega) only[push_cast,Nat.reduceEqDiff]))
    refine callV en_69 (callX_is (fun w' hw' => indexFunc_walk w' lo l a c (h' w' hw').hr (Nat.le_trans hlo hw'.size) h.hc h.hc2 70 _ (fun g => decide (g.nm = nm)) en_70 (fun w'' hw'' g ga gc hg => find1_walk w'' g ga gc b2 nm ?_)) ?_)
    · exact (At.of_own hw' (.head _) rfl).of_block (hw''.rest _ (hw'.lt (.head _)) (by simp))
    simp (disch:=omega) only[push_cast,Nat.reduceEqDiff]
    exact finIs hL (by simp [findP,hm'])
end Go.Proofs.YtdmdgkpjjpijdaaGreatDoor
