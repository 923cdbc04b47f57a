/- YtdmdgkpjjpijdaaGreatDoor: walks, part 61: a list of fields copied, those within too: new memory. -/
import Derived.Test.YtdmdgkpjjpijdaaGreatDoorW51
import Derived.Test.YtdmdgkpjjpijdaaGreatDoorW195
namespace Go.Proofs.YtdmdgkpjjpijdaaGreatDoor
open Go Go.K
open Nat renaming reduceEqDiff → qE
set_option maxRecDepth 100000
set_option linter.unusedVariables false
set_option linter.unusedSimpArgs false
set_option maxHeartbeats 4000000
def fA:Fld:=.mk [97] false 6 0 0 0 []
def fB:Fld:=.mk [98] false 6 0 0 0 []
def fL:Fld:=.mk [108] true 15 0 0 0 [fA]
theorem check_AA:checkP [fA,fA] []=((31:Int),([1]:List Nat),(0:Int)):=by decide
theorem check_AL:checkP [fA,fL] []=((0:Int),([]:List Nat),(0:Int)):=by decide
theorem count_AL:countP [fA,fL] []=3:=by decide
theorem find_AL:findP [fA,fL] [] [108]=1:=by decide
theorem alike_AB:alikeFP fA fB=true:=by decide
theorem print_AL:printG [fA,fL] []=([97,32,105,110,116,54,52,44,32,108,32,108,105,115,116,40,97,32,105,110,116,54,52,41,63],0):=by decide
theorem easy_AL:okM [fA,fL]=true∧(outT [fA,fL] []).length≤17592186044416∧∀ n∈([]:List NoteT),n.1.length≤1000∧n.2.length≤1000:=⟨by decide,by decide,by simp⟩
theorem rd_A {w:World} {lo b off:Nat} (h:At w b off [str [97],.bool false,i64 6,i64 0,i64 0,i64 0,.slice none 0 0]) (hb:b < lo):Rd w lo (some ⟨b,off,none⟩) [fA] :=
 .cons (a:=none) (c:=0) hb (by simp[fA,Fld.sub]) (by simp[fA,Fld.nm]) (by omega) h (.nil _) (.nil _)
theorem rd_AA {w:World} {lo b:Nat} (h:At w b 0 [str [97],.bool false,i64 6,i64 0,i64 0,i64 0,.slice none 0 0]) (h2:At w b 7 [str [97],.bool false,i64 6,i64 0,i64 0,i64 0,.slice none 0 0]) (hb:b < lo):Rd w lo (some ⟨b,0,none⟩) [fA,fA] :=
 .cons (a:=none) (c:=0) hb (by simp[fA,Fld.sub]) (by simp[fA,Fld.nm]) (by omega) h (.nil _) (rd_A h2 hb)
theorem rd_AL {w:World} {lo b b2:Nat} (h:At w b 0 [str [97],.bool false,i64 6,i64 0,i64 0,i64 0,.slice none 0 0]) (h2:At w b 7 [str [108],.bool true,i64 15,i64 0,i64 0,i64 0,.slice (some ⟨b2,0,none⟩) 1 1])
 (h3:At w b2 0 [str [97],.bool false,i64 6,i64 0,i64 0,i64 0,.slice none 0 0]) (hb:b < lo) (hb2:b2 < lo):Rd w lo (some ⟨b,0,none⟩) [fA,fL] :=
 .cons (a:=none) (c:=0) hb (by simp[fA,Fld.sub]) (by simp[fA,Fld.nm]) (by omega) h (.nil _) (.cons (f:=fL) (a:=some ⟨b2,0,none⟩) (c:=1) hb (by simp[fL,Fld.sub]) (by simp[fL,Fld.nm]) (by omega) h2 (rd_A h3 hb2) (.nil _))
theorem awake_walk (w:World) (hs:SaysAt w):Calls Tryz.prog 5 #[] w (Rets w (Is (.bool true))):=by
 refine enterT (args:=[]) Tryz.func5 rfl Tryz.ntmps5 (congrArg Array.toList Tryz.results5) (by kernel_rfl) (by simp) (Sy.refl w) ?_
 refine sp ?_
 refine callV en_30 (cIs (fun w' _=>one_walk w' [97]) ?_)
 refine sp ?_
 refine newI (fun b1 hb1 hn1=>?_)
 refine sp ?_
 repeat' (first|((first|((first|refine gT rfl ?_ ?_|refine gF rfl ?_ ?_|refine cdD ?_ ?_)<;>intro h)|((first|refine gbT rfl ?_ ?_|refine gbF rfl ?_ ?_|refine cdB ?_ ?_)<;>intro h<;>(try subst h))|refine lOa Shp.eq rfl ?_|refine lAa Shp.eq rfl rfl ?_|refine newI (fun b hb hn=>?_)|refine sXb Siz.eq rfl rfl ?_)<;>simp (disch:=omega) only[push_cast,qE]))
 refine bs_24_1 (newI fun b2 hb2 hn2=>?_)
 refine sp ?_
 refine newI (fun b3 hb3 hn3=>?_)
 refine sp ?_
 repeat' (first|((first|((first|refine gT rfl ?_ ?_|refine gF rfl ?_ ?_|refine cdD ?_ ?_)<;>intro h)|((first|refine gbT rfl ?_ ?_|refine gbF rfl ?_ ?_|refine cdB ?_ ?_)<;>intro h<;>(try subst h))|refine lOa Shp.eq rfl ?_|refine lAa Shp.eq rfl rfl ?_|refine newI (fun b hb hn=>?_)|refine sXb Siz.eq rfl rfl ?_)<;>simp (disch:=omega) only[push_cast,qE]))
 refine bs_24_2 (newI fun b4 hb4 hn4=>?_)
 refine sp ?_
 refine newI (fun b5 hb5 hn5=>?_)
 refine sp ?_
 repeat' (first|((first|((first|refine gT rfl ?_ ?_|refine gF rfl ?_ ?_|refine cdD ?_ ?_)<;>intro h)|((first|refine gbT rfl ?_ ?_|refine gbF rfl ?_ ?_|refine cdB ?_ ?_)<;>intro h<;>(try subst h))|refine lOa Shp.eq rfl ?_|refine lAa Shp.eq rfl rfl ?_|refine newI (fun b hb hn=>?_)|refine sXb Siz.eq rfl rfl ?_)<;>simp (disch:=omega) only[push_cast,qE]))
 refine bs_24_2 (newI fun b6 hb6 hn6=>?_)
 refine sp ?_
 have hL:∀ p∈[(qb10 b6),(b5,Obj.cells #[.slice (some ⟨b4,0,none⟩) 2 2,.slice none 0 0] 27 (0,0)),(qb8 b4 b2),(qb14 b3 b2),(qb7 b2),(qb7 b1)],w.heap.size≤p.1:=by
  intro p hp
  simp only[List.mem_cons,List.mem_nil_iff,or_false] at hp
  rcases hp with rfl|rfl|rfl|rfl|rfl|rfl<;>assumption
 refine callV en_17 (callX_newR (fun w' hw'=>check_walk w' (hs.mono hw' hL) w'.heap.size (Nat.le_refl _) [fA,fA] (some ⟨b6,0,none⟩) 2 (rd_AA (At.of_own hw' (.head _) rfl) (At.of_own hw' (.head _) rfl) (hw'.lt (.head _))) (by simp) (by omega) [] none 0 (.inl rfl) (by simp) (by omega)) (fun v M hM hMn ⟨pa,pc,hv,hrow,_⟩=>?_))
 subst hv
 rw[check_AA] at hrow ⊢
 obtain ⟨_,⟨he,h0⟩|⟨bp,cap,cs,he,hbp,h1,h2,h3,h4⟩⟩:=hrow
 ·cases h0
 injection he with he1 he2 he3
 subst he1; subst he3
 refine sp ?_
 refine newI (fun b7 hb7 hn7=>?_)
 refine sp ?_
 repeat' (first|((first|((first|refine gT rfl ?_ ?_|refine gF rfl ?_ ?_|refine cdD ?_ ?_)<;>intro h)|((first|refine gbT rfl ?_ ?_|refine gbF rfl ?_ ?_|refine cdB ?_ ?_)<;>intro h<;>(try subst h))|refine lOa Shp.eq rfl ?_|refine lAa Shp.eq rfl rfl ?_|refine newI (fun b hb hn=>?_)|refine sXb Siz.eq rfl rfl ?_)<;>simp (disch:=omega) only[push_cast,qE]))
 have hL7:∀ x,∀ p∈((b7,(x:Obj))::(qb10 b6)::(b5,Obj.cells #[.slice (some ⟨b4,0,none⟩) 2 2,.slice none 0 0] 27 (0,0))::(qb8 b4 b2)::(qb14 b3 b2)::(qb7 b2)::(qb7 b1)::M),w.heap.size≤p.1:=by
  intro x p hp
  rcases List.mem_cons.1 hp with rfl|hp
  ·exact hb7
  ·rcases List.mem_append.1 (show p∈[_,_,_,_,_,_]++M from hp) with hp|hp
   ·exact hL p hp
   ·exact hM p hp
 have hsch:∀ x w',Sy w ((b7,(x:Obj))::(qb10 b6)::(b5,Obj.cells #[.slice (some ⟨b4,0,none⟩) 2 2,.slice none 0 0] 27 (0,0))::(qb8 b4 b2)::(qb14 b3 b2)::(qb7 b2)::(qb7 b1)::M) w'→SchAt w' w'.heap.size (some ⟨b4,0,none⟩) [fA,fL] 2 none [] 0:=fun x w' hw' =>
  ⟨rd_AL (At.of_own hw' (.tail _ (.tail _ (.tail _ (.head _)))) rfl) (At.of_own hw' (.tail _ (.tail _ (.tail _ (.head _)))) rfl) (At.of_own hw' (.tail _ (.tail _ (.tail _ (.tail _ (.tail _ (.head _)))))) rfl) (hw'.lt (.tail _ (.tail _ (.tail _ (.head _))))) (hw'.lt (.tail _ (.tail _ (.tail _ (.tail _ (.tail _ (.head _))))))),by simp,by omega,.inl rfl,by simp,by omega⟩
 refine callV en_18 (cIs (fun w' hw'=>printG_walk w' (hs.mono hw' (hL7 _)) w'.heap.size (Nat.le_refl _) (some ⟨b4,0,none⟩) [fA,fL] 2 none [] 0 (hsch _ w' hw') (fun _=>easy_AL)) ?_)
 rw[print_AL]
 refine sp ?_
 repeat' (first|((first|((first|refine gT rfl ?_ ?_|refine gF rfl ?_ ?_|refine cdD ?_ ?_)<;>intro h)|((first|refine gbT rfl ?_ ?_|refine gbF rfl ?_ ?_|refine cdB ?_ ?_)<;>intro h<;>(try subst h))|refine lOa Shp.eq rfl ?_|refine lAa Shp.eq rfl rfl ?_|refine newI (fun b hb hn=>?_)|refine sXb Siz.eq rfl rfl ?_)<;>simp (disch:=omega) only[push_cast,qE]))
 have hc0:cs[0]?=some (i64 1):=by
  have:=congrArg (fun l=>l[0]?) h4
  simpa [ints,List.getElem?_take] using this
 refine forgetS (fun e=>e 0=.bool false∧e 1=.pointer (some ⟨b1,0,none⟩)∧e 3=.pointer (some ⟨b5,0,none⟩)∧e 4=.pointer (some ⟨b7,0,none⟩)∧e 5=str [97,32,105,110,116,54,52,44,32,108,32,108,105,115,116,40,97,32,105,110,116,54,52,41,63]∧e 6=i64 0) ⟨rfl,rfl,rfl,rfl,rfl,rfl⟩ ?_
 rintro e ⟨e0,e1,e3,e4,e5,e6⟩
 refine drawQT (by kernel_rfl) (by kernel_rfl) mixed (by kernel_rfl) ?_
 simp (disch:=omega) only[push_cast,qE,e0,e1,e3,e4,e5,e6,decide_true,Int.zero_add]
 refine lAg sh_27 (.tail _ (.tail _ (.head _))) rfl rfl ?_
 simp (disch:=omega) only[push_cast,qE,e0,e1,e3,e4,e5,e6,decide_true,Int.zero_add]
 refine qcallV en_17 (qcallX_new (.agg #[i64 0,.slice none 0 0,i64 0]) (fun w' hw'=>check_walk w' (hs.mono hw' (hL7 _)) w'.heap.size (Nat.le_refl _) [fA,fL] (some ⟨b4,0,none⟩) 2 (hsch _ w' hw').hr (by simp) (by omega) [] none 0 (.inl rfl) (by simp) (by omega)) (fun u M hS=>by
  obtain ⟨pa,pc,hu,_,hn⟩:=hS
  rw[check_AL] at hu hn
  obtain ⟨rfl,rfl⟩:=hn rfl
  exact hu) ?_)
 simp (disch:=omega) only[push_cast,qE,e0,e1,e3,e4,e5,e6,decide_true,Int.zero_add]
 repeat' (first|((first|((first|refine gT rfl ?_ ?_|refine gF rfl ?_ ?_|refine cdD ?_ ?_)<;>intro h)|((first|refine gbT rfl ?_ ?_|refine gbF rfl ?_ ?_|refine cdB ?_ ?_)<;>intro h<;>(try subst h))|refine lOa Shp.eq rfl ?_|refine lAa Shp.eq rfl rfl ?_|refine newI (fun b hb hn=>?_)|refine sXb Siz.eq rfl rfl ?_)<;>simp (disch:=omega) only[push_cast,qE,e0,e1,e3,e4,e5,e6,decide_true,Int.zero_add])|(first|rw[Vc]|rw[Vb])<;>(try simp (disch:=omega) only[push_cast,qE,e0,e1,e3,e4,e5,e6,decide_true,Int.zero_add]))
 refine lOn sh_3 (.tail _ (.tail _ (.tail _ (.tail _ (.tail _ (.tail _ (.tail _ (hbp)))))))) hc0 ?_
 simp (disch:=omega) only[push_cast,qE,e0,e1,e3,e4,e5,e6,decide_true,Int.zero_add]
 repeat' (first|((first|((first|refine gT rfl ?_ ?_|refine gF rfl ?_ ?_|refine cdD ?_ ?_)<;>intro h)|((first|refine gbT rfl ?_ ?_|refine gbF rfl ?_ ?_|refine cdB ?_ ?_)<;>intro h<;>(try subst h))|refine lOa Shp.eq rfl ?_|refine lAa Shp.eq rfl rfl ?_|refine newI (fun b hb hn=>?_)|refine sXb Siz.eq rfl rfl ?_)<;>simp (disch:=omega) only[push_cast,qE,e0,e1,e3,e4,e5,e6,decide_true,Int.zero_add])|(first|rw[Vc]|rw[Vb])<;>(try simp (disch:=omega) only[push_cast,qE,e0,e1,e3,e4,e5,e6,decide_true,Int.zero_add]))
 refine qcallV en_19 (qcallX_is (i64 3) (fun w' hw'=>by
  have h:=count_walk w' (hs.mono hw' (hL7 _)) w'.heap.size (Nat.le_refl _) (some ⟨b4,0,none⟩) [fA,fL] 2 none [] 0 (hsch _ w' hw')
  rw[count_AL] at h
  exact h) ?_)
 simp (disch:=omega) only[push_cast,qE,e0,e1,e3,e4,e5,e6,decide_true,Int.zero_add]
 repeat' (first|((first|((first|refine gT rfl ?_ ?_|refine gF rfl ?_ ?_|refine cdD ?_ ?_)<;>intro h)|((first|refine gbT rfl ?_ ?_|refine gbF rfl ?_ ?_|refine cdB ?_ ?_)<;>intro h<;>(try subst h))|refine lOa Shp.eq rfl ?_|refine lAa Shp.eq rfl rfl ?_|refine newI (fun b hb hn=>?_)|refine sXb Siz.eq rfl rfl ?_)<;>simp (disch:=omega) only[push_cast,qE,e0,e1,e3,e4,e5,e6,decide_true,Int.zero_add])|(first|rw[Vc]|rw[Vb])<;>(try simp (disch:=omega) only[push_cast,qE,e0,e1,e3,e4,e5,e6,decide_true,Int.zero_add]))
 refine qcallV en_31 (qcallX_is (i64 1) (fun w' hw'=>by
  have h:=find_walk w' (hs.mono hw' (hL7 _)) w'.heap.size (Nat.le_refl _) (some ⟨b4,0,none⟩) [fA,fL] 2 none [] 0 (hsch _ w' hw') [108]
  rw[find_AL] at h
  exact h) ?_)
 simp (disch:=omega) only[push_cast,qE,e0,e1,e3,e4,e5,e6,decide_true,Int.zero_add]
 repeat' (first|((first|((first|refine gT rfl ?_ ?_|refine gF rfl ?_ ?_|refine cdD ?_ ?_)<;>intro h)|((first|refine gbT rfl ?_ ?_|refine gbF rfl ?_ ?_|refine cdB ?_ ?_)<;>intro h<;>(try subst h))|refine lOa Shp.eq rfl ?_|refine lAa Shp.eq rfl rfl ?_|refine newI (fun b hb hn=>?_)|refine sXb Siz.eq rfl rfl ?_)<;>simp (disch:=omega) only[push_cast,qE,e0,e1,e3,e4,e5,e6,decide_true,Int.zero_add])|(first|rw[Vc]|rw[Vb])<;>(try simp (disch:=omega) only[push_cast,qE,e0,e1,e3,e4,e5,e6,decide_true,Int.zero_add]))
 refine lAg sh_37 (.tail _ (.tail _ (.tail _ (.tail _ (.tail _ (.tail _ (.head _))))))) rfl rfl ?_
 simp (disch:=omega) only[push_cast,qE,e0,e1,e3,e4,e5,e6,decide_true,Int.zero_add]
 refine qcallV en_30 (qcallX_is (.agg #[str [98],.bool false,i64 6,i64 0,i64 0,i64 0,.slice none 0 0]) (fun w' _=>one_walk w' [98]) ?_)
 simp (disch:=omega) only[push_cast,qE,e0,e1,e3,e4,e5,e6,decide_true,Int.zero_add]
 repeat' (first|((first|((first|refine gT rfl ?_ ?_|refine gF rfl ?_ ?_|refine cdD ?_ ?_)<;>intro h)|((first|refine gbT rfl ?_ ?_|refine gbF rfl ?_ ?_|refine cdB ?_ ?_)<;>intro h<;>(try subst h))|refine lOa Shp.eq rfl ?_|refine lAa Shp.eq rfl rfl ?_|refine newI (fun b hb hn=>?_)|refine sXb Siz.eq rfl rfl ?_)<;>simp (disch:=omega) only[push_cast,qE,e0,e1,e3,e4,e5,e6,decide_true,Int.zero_add])|(first|rw[Vc]|rw[Vb])<;>(try simp (disch:=omega) only[push_cast,qE,e0,e1,e3,e4,e5,e6,decide_true,Int.zero_add]))
 refine qcallV en_32 (qcallX_is (.bool true) (fun w' hw'=>by
  have h:=alikeFields_walk w' (hs.mono hw' (hL7 _)) w'.heap.size (Nat.le_refl _) fA fB none none 0 0 (.nil _) (.nil _) (by simp[fA,Fld.sub]) (by simp[fB,Fld.sub]) (by omega) (by omega) (by simp[fA,Fld.nm]) (by simp[fB,Fld.nm])
  rw[alike_AB] at h
  exact h) ?_)
 simp (disch:=omega) only[push_cast,qE,e0,e1,e3,e4,e5,e6,decide_true,Int.zero_add]
 repeat' (first|((first|((first|refine gT rfl ?_ ?_|refine gF rfl ?_ ?_|refine cdD ?_ ?_)<;>intro h)|((first|refine gbT rfl ?_ ?_|refine gbF rfl ?_ ?_|refine cdB ?_ ?_)<;>intro h<;>(try subst h))|refine lOa Shp.eq rfl ?_|refine lAa Shp.eq rfl rfl ?_|refine newI (fun b hb hn=>?_)|refine sXb Siz.eq rfl rfl ?_)<;>simp (disch:=omega) only[push_cast,qE,e0,e1,e3,e4,e5,e6,decide_true,Int.zero_add])|(first|rw[Vc]|rw[Vb])<;>(try simp (disch:=omega) only[push_cast,qE,e0,e1,e3,e4,e5,e6,decide_true,Int.zero_add]))
 exact finIs (hL7 _) rfl
set_option maxHeartbeats 8000000
theorem parse_small (t:List UInt8):∀ n∈(parseP t).nt,n.1.length≤9223372036854775807∧n.2.length≤9223372036854775807:=by
 intro n hn
 by_cases h:(parseP t).e=0
 ·obtain ⟨_,h2,h3,_⟩:=checkP_zero (parse_may h).1
  rw[List.findIdx?_eq_none_iff] at h3
  have:=h3 n hn
  simp only[longNote,Bool.or_eq_false_iff,decide_eq_false_iff_not] at this
  omega
 ·exfalso
  have:(parseP t).nt=[]:=by
   unfold parseP at h ⊢
   split
   ·rfl
   rename_i h1
   rw[if_neg h1] at h
   split
   ·rfl
   rename_i x q h2
   rw[h2] at h
   simp only at h ⊢
   split
   ·rename_i h3
    rw[if_pos h3] at h
    exact absurd rfl h
   ·rfl
  rw[this] at hn
  cases hn
theorem schP_own {wb w:World} {L K1 K2:Own} {t:List UInt8} {a na:Option Addr} {c nc:Nat} (h1:OwS (parseP t).l K1 a c) (h2:OwN (parseP t).nt K2 na nc) (hw:Sy wb L w) (s1:∀ p∈K1,p∈L) (s2:∀ p∈K2,p∈L):SchAt w w.heap.size a (parseP t).l c na (parseP t).nt nc :=
 ⟨h1.rd hw s1,h1.le.1,h1.le.2,h2.rdn (parse_small t) hw s2,h2.le.1,h2.le.2⟩
mutual
def okS:Fld→Bool
 | .mk _ _ _ _ _ _ sub=>decide (sub.length≤32) && okT sub
def okT:List Fld→Bool
 | []=>true
 | f::l=>okS f && okT l
end
theorem okS_iff (f:Fld):okS f=true↔f.sub.length≤32∧okT f.sub=true:=by
 cases f
 simp only[okS,Bool.and_eq_true,decide_eq_true_eq,Fld.sub]
theorem okT_get:∀ {l:List Fld} {i:Nat} {f:Fld},okT l=true→l[i]?=some f→okS f=true
 | [],i,f,_,h=>by simp at h
 | g::l,0,f,h1,h2=>by simp only[okT,Bool.and_eq_true] at h1; simp at h2; rw[← h2]; exact h1.1
 | g::l,i+1,f,h1,h2=>by simp only[okT,Bool.and_eq_true] at h1; exact okT_get h1.2 (un h2)
theorem node_may {l:List Fld} {nt:List NoteT} (h:mayP l nt=true):∀ x∈nd 65 [] false l,isName x.f.nm∧shapedF x.f:=by
 intro x hx
 obtain ⟨i,hi⟩:=List.mem_iff_getElem?.1 hx
 have h1:=(checkP_zero h).2.2.2 i
 unfold wrongAt at h1
 rw[hi] at h1
 simp only at h1
 unfold wrongN at h1
 by_cases q1:64 < x.path.length
 ·rw[if_pos q1] at h1; cases h1
 rw[if_neg q1] at h1
 by_cases q2:(256:Int)≤i
 ·rw[if_pos q2] at h1; cases h1
 rw[if_neg q2] at h1
 by_cases q3:¬ isName x.f.nm
 ·rw[if_pos q3] at h1; cases h1
 rw[if_neg q3] at h1
 by_cases q4:x.ah.any (fun g=>decide (g.nm=x.f.nm))=true
 ·rw[if_pos q4] at h1; cases h1
 rw[if_neg q4] at h1
 by_cases q5:¬ shapedF x.f
 ·rw[if_pos q5] at h1; cases h1
 exact ⟨Decidable.not_not.1 q3,Decidable.not_not.1 q5⟩
theorem mostK_le (k:Int):mostK k≤32:=by
 unfold mostK
 split
 ·decide
 ·split<;>decide
theorem small_keys:∀ (d:Nat) (l:List Fld),Dp d l→(∀ q∈keysL d l,q.n≤32)→okT l=true
 | 0,l,h,_=>by cases h; simp[okT]
 | d+1,[],_,_=>by simp[okT]
 | d+1,f::l,h,hg=>by
  have hk:keysL (d+1) (f::l)=keyF f::(keysL d f.sub++keysL (d+1) l):=by rw[keysL,keysL,List.flatMap_cons]; rfl
  rw[hk] at hg
  have g1:f.sub.length≤32:=hg _ (.head _)
  have a1:=small_keys d f.sub (h f (.head _)) fun q hq=>hg q (.tail _ (List.mem_append_left _ hq))
  have b1:=small_keys (d+1) l (fun x hx=>h x (.tail _ hx)) fun q hq=>hg q (.tail _ (List.mem_append_right _ hq))
  rw[okT,b1,(okS_iff f).2 ⟨g1,a1⟩]; rfl
theorem small_may {l:List Fld} {nt:List NoteT} (h:mayP l nt=true):okT l=true∧l.length≤32:=by
 refine ⟨small_keys 64 l (may_dp h) fun q hq=>?_,(checkP_zero h).1⟩
 rw[← keys_dp 64 l (may_dp h),← keys_nd 65 [] false l] at hq
 obtain ⟨x,hx,rfl⟩:=List.mem_map.1 hq
 obtain ⟨_,_,_,_,_,h5⟩:=node_may h x hx
 have:=mostK_le x.f.k
 show x.f.sub.length≤32
 omega
set_option maxHeartbeats 1000000
def FldsM (M:Own):List Fld→List Value→Prop
 | [],cs=>cs=[]
 | f::l,cs=>∃ a c r,cs=f.cells a c++r∧f.sub.length≤c∧f.nm.length≤9223372036854775807∧c≤9223372036854775807∧RdX (fun w=>Held w M) a f.sub∧FldsM M l r
theorem FldsM.toC {M:Own} {w:World} (hw:Held w M):∀ {l:List Fld} {cs:List Value},FldsM M l cs→FldsC w w.heap.size l cs
 | [],_,h=>h
 | f::l,cs,⟨a,c,r,h1,h2,h3,h4,h5,h6⟩=>⟨a,c,r,h1,h2,h3,h4,h5.toRd hw,FldsM.toC hw h6⟩
theorem FldsM.mono {M M':Own} (h:∀ p∈M,p∈M'):∀ {l:List Fld} {cs:List Value},FldsM M l cs→FldsM M' l cs
 | [],_,hx=>hx
 | f::l,cs,⟨a,c,r,h1,h2,h3,h4,h5,h6⟩=>⟨a,c,r,h1,h2,h3,h4,h5.mono fun w hw p hp=>hw p (h p hp),FldsM.mono h h6⟩
theorem FldsM.append {M:Own} {m:List Fld} {ds:List Value} (hd:FldsM M m ds):∀ {l:List Fld} {cs:List Value},FldsM M l cs→FldsM M (l++m) (cs++ds)
 | [],_,h=>by cases h; exact hd
 | f::l,cs,⟨a,c,r,h1,h2,h3,h4,h5,h6⟩=>⟨a,c,r++ds,by rw[h1,List.append_assoc],h2,h3,h4,h5,FldsM.append hd h6⟩
def CopyS (v:Value) (M:Own) (l:List Fld):Prop:=∃ a c xs,v=.slice a l.length c∧l.length≤c∧c≤9223372036854775807∧FldsM M l xs∧xs.length=l.length * 7∧(l=[]∨∃ b cs ty,a=some ⟨b,0,none⟩∧(b,Obj.cells (List.toArray cs) ty (0,0))∈M∧cs.take (l.length * 7)=xs)
theorem FldsM.toX {M:Own} {b:Nat}:∀ {l:List Fld} {cs:List Value} {off:Nat},FldsM M l cs→(∀ w,Held w M→At w b off cs)→RdX (fun w=>Held w M) (some ⟨b,off,none⟩) l
 | [],_,_,_,_=>.nil _
 | f::l,cs,off,⟨a,c,r,h1,h2,h3,h4,h5,h6⟩,hat=>by
  subst h1
  exact .cons h2 h3 h4 (fun w hw=>(hat w hw).sub 0 (f.cells a c) (by simp[Fld.cells])) h5 (FldsM.toX h6 fun w hw=>(hat w hw).sub 7 r (by simp[Fld.cells]))
theorem copy_rdx {M:Own} {a:Option Addr} {l:List Fld} {xs:List Value} (h1:FldsM M l xs) (hl:xs.length=l.length * 7) (h2:l=[]∨∃ b cs ty,a=some ⟨b,0,none⟩∧(b,Obj.cells (List.toArray cs) ty (0,0))∈M∧cs.take (l.length * 7)=xs):RdX (fun w=>Held w M) a l:=by
 rcases h2 with rfl|⟨b,cs,ty,rfl,hm,ht⟩
 ·exact .nil _
 ·refine h1.toX fun w hw=>⟨_,_,_,hw _ hm,?_⟩
  rw[List.drop_zero,hl]
  exact ht
theorem clip_walk (w:World) (a:Option Addr) (n c:Nat) (hn:n≤c) (hc:c≤9223372036854775807):Calls Tryz.prog 93 #[.slice a n c] w (Rets w (Is (.slice a n n))):=by
 refine enterT (args:=[.slice a n c]) Tryz.func93 rfl Tryz.ntmps93 (congrArg Array.toList Tryz.results93) (by kernel_rfl) (by simp) (Sy.refl w) ?_
 simp (disch:=omega) only[push_cast,qE,Int.toNat_natCast]
 exact finIs (by simp) rfl
def CopyOK (n:Nat):Prop:=∀ (w:World) (lo:Nat) (l:List Fld) (a:Option Addr) (c:Nat),lo≤w.heap.size→Rd w lo a l→l.length≤c→c≤9223372036854775807→l.length≤32→okT l=true→SizeOf.sizeOf l < n →
 Calls Tryz.prog 60 #[.slice a l.length c] w (RetsN w (fun v M=>CopyS v M l))
structure CpI (w0:World) (l:List Fld) (a:Option Addr) (c:Nat) (i:Nat) (wb:World) (e:Env) (ds:List Deferred) (L:Own):Prop where
 hw:wb=w0
 hds:ds=[]
 o:∃ A xs,RowO w0 37 7 L A (e 3) i xs∧(∀ p∈A,w0.heap.size≤p.1)∧FldsM A (l.take i) xs
 il:i≤l.length
 h6:e 6=.slice a l.length c
 h7:e 7=i64 l.length
 h8:e 8=i64 i
theorem copied_step (n:Nat) (hC:∀ m,m < n→CopyOK m):CopyOK n:=by
 intro w lo l a c hlo hr hc hc2 hl32 hok hsz
 refine enterB (args:=[.slice a l.length c]) Tryz.func60 rfl Tryz.ntmps60 (congrArg Array.toList Tryz.results60) (by kernel_rfl) (by simp) (Sy.refl w) ?_
 refine sp ?_
 repeat' (first|((first|((first|refine gT rfl ?_ ?_|refine gF rfl ?_ ?_|refine cdD ?_ ?_)<;>intro h)|((first|refine gbT rfl ?_ ?_|refine gbF rfl ?_ ?_|refine cdB ?_ ?_)<;>intro h<;>(try subst h))|refine lOa Shp.eq rfl ?_|refine lAa Shp.eq rfl rfl ?_|refine newI (fun b hb hn=>?_)|refine sXb Siz.eq rfl rfl ?_)<;>simp (disch:=omega) only[push_cast,qE]))
 rw[Vb]
 refine sp ?_
 refine loopW (G:=Nat) (CpI w l a c) (fun i=>l.length - i) 0 [] (fun w hw=>hw) (by kernel_rfl) ⟨rfl,rfl,⟨[],[],⟨rfl,.inl ⟨rfl,rfl,rfl⟩⟩,by simp,rfl⟩,by omega,rfl,rfl,rfl⟩ ?_
 rintro i wb e ds L ⟨rfl,rfl,⟨A,xs,hro,hA,hx⟩,hil,h6,h7,h8⟩
 obtain ⟨v0,h3⟩:∃ v0,e 3=v0:=⟨_,rfl⟩
 rw[h3] at hro
 have hLn:=hro.new hA
 simp (disch:=omega) only[push_cast,qE,h3,h6,h7,h8]
 rw[Vc]
 simp (disch:=omega) only[push_cast,qE,h3,h6,h7,h8]
 refine cdD (fun hlt=>?_) (fun hge=>?_)
 ·obtain ⟨f,hf⟩:∃ f,l[i]?=some f:=⟨_,List.getElem?_eq_getElem (by omega)⟩
  obtain ⟨hs1,hs2⟩:=(okS_iff f).1 (okT_get hok hf)
  have hszf:SizeOf.sizeOf f.sub+1 < n:=by
   have h1:=List.sizeOf_lt_of_mem (List.mem_of_getElem? hf)
   have:SizeOf.sizeOf f.sub < SizeOf.sizeOf f:=by cases f; simp only[Fld.sub,Fld.mk.sizeOf_spec]; omega
   omega
  obtain ⟨b,off,rfl,hb⟩:∃ b off,a=some ⟨b,off,none⟩∧b < lo:=by
   obtain ⟨f0,l0,rfl⟩:∃ f l',l=f::l':=List.exists_cons_of_ne_nil (by rintro rfl; simp at hf)
   exact hr.some_of
  obtain ⟨fa,fc,x1,x2,x3,x4,x5,x6⟩:=hr.get i hf
  simp (disch:=omega) only[push_cast,qE,h3,h6,h7,h8]
  rw[Vb]
  simp (disch:=omega) only[push_cast,qE,h3,h6,h7,h8]
  refine ldAggF Shp.eq x2 rfl (out_of (fun p hp=>Nat.lt_of_lt_of_le (Nat.lt_of_lt_of_le x1 hlo) (hLn p hp))) ?_
  simp (disch:=omega) only[push_cast,qE,h3,h6,h7,h8,Fld.cells]
  refine newI (fun b5 hb5 hn5=>?_)
  simp (disch:=omega) only[push_cast,qE,h3,h6,h7,h8]
  repeat' (first|((first|((first|refine gT rfl ?_ ?_|refine gF rfl ?_ ?_|refine cdD ?_ ?_)<;>intro h)|((first|refine gbT rfl ?_ ?_|refine gbF rfl ?_ ?_|refine cdB ?_ ?_)<;>intro h<;>(try subst h))|refine lOa Shp.eq rfl ?_|refine lAa Shp.eq rfl rfl ?_|refine newI (fun b hb hn=>?_)|refine sXb Siz.eq rfl rfl ?_)<;>simp (disch:=omega) only[push_cast,qE,h3,h6,h7,h8]))
  have hL5:∀ x:Obj,∀ p∈((b5,x)::L),wb.heap.size≤p.1:=fun x p hp=>by
   rcases List.mem_cons.1 hp with rfl|hp
   ·exact hb5
   ·exact hLn p hp
  refine callV en_60 (cNw (fun w' hw'=>hC (SizeOf.sizeOf f.sub+1) hszf w' lo f.sub fa fc (Nat.le_trans hlo hw'.size) (x6.sy hlo hw' (fun p hp=>Nat.le_trans hlo (hL5 _ p hp))) x3 x5 hs1 hs2 (by omega)) (fun v M hM hMn hS=>?_))
  obtain ⟨a2,c2,xs2,rfl,z1,z2,z3,z4,z5⟩:=hS
  have zr:=copy_rdx z3 z4 z5
  simp (disch:=omega) only[push_cast,qE,h3,h6,h7,h8]
  refine storeX_weak (L':=(qb0 b5 f fa fc)::(M++L)) (fun w hw=>hw.perm List.perm_middle) (sXa 0 rfl Siz.eq rfl rfl ?_)
  simp (disch:=omega) only[push_cast,qE,h3,h6,h7,h8]
  refine lAg Shp.eq mem0 rfl rfl ?_
  simp (disch:=omega) only[push_cast,qE,h3,h6,h7,h8]
  refine bs_24_1 (newI fun b9 hb9 hn9=>?_)
  simp (disch:=omega) only[push_cast,qE,h3,h6,h7,h8]
  obtain ⟨R,rfl,hR⟩:=RowO.unframe hro
  have hMA:∀ p∈M++A,wb.heap.size≤p.1:=(nA hM hA)
  have hbb:∀ (x y:Obj),∀ p∈((b9,x)::(b5,y)::(M++A)),wb.heap.size≤p.1:=fun x y p hp=>by
   simp only[List.mem_cons] at hp
   rcases hp with rfl|rfl|hp
   ·exact hb9
   ·exact hb5
   ·exact hMA p hp
  refine valX_weak (L':=R++((qb0 b9 f a2 c2)::(qb0 b5 f a2 c2)::(M++A))) (fun w hw=>hw.perm (by
   have p1:(M++(R++A)).Perm (R++(M++A)):=by rw[← List.append_assoc,← List.append_assoc]; exact List.perm_append_comm.append_right A
   exact ((p1.cons _).cons _).trans ((List.perm_middle.symm.cons _).trans List.perm_middle.symm))) (appendI un_24 infoFldC rfl (m:=1) (news:=[str f.nm,.bool f.nl,i64 f.k,i64 f.wd,i64 f.id,i64 f.ix,.slice a2 f.sub.length c2]) (RowO.frame hR) rfl (CanRead.of_own (e:=37) (b:=b9) (cs:=[str f.nm,.bool f.nl,i64 f.k,i64 f.wd,i64 f.id,i64 f.ix,.slice a2 f.sub.length c2]) (n:=7) (by simp) rfl rfl) (by simp[Value.oneCell']) (by simp only[maxLen]; omega) (by omega) (fun v5 L5 hro5 _=>?_))
  simp (disch:=omega) only[push_cast,qE,h3,h6,h7,h8]
  obtain ⟨L6,hro6,hs6⟩:=RowO.shrink [(qb0 b9 f a2 c2),(qb0 b5 f a2 c2)] hro5 (fun p hp=>by
   simp only[List.mem_cons,List.mem_nil_iff,or_false] at hp
   rcases hp with rfl|rfl
   ·exact hb9
   ·exact hb5)
  refine ⟨i+1,L6,hs6,⟨rfl,rfl,⟨M++A,_,hro6,hMA,?_⟩,by omega,h6,h7,uu⟩,by omega⟩
  rw[List.take_add_one,hf,Option.toList_some]
  exact FldsM.append (show FldsM (M++A) [f] _ from ⟨a2,c2,[],by simp[Fld.cells],z1,x4,z2,zr.mono fun w hw p hp=>hw p (List.mem_append_left _ hp),rfl⟩) (hx.mono fun p hp=>List.mem_append_right _ hp)
 ·obtain rfl:i=l.length:=by omega
  rw[List.take_length] at hx
  obtain ⟨va,vc,rfl⟩:=hro.is_slice
  have hle:=RowO.le hro
  simp (disch:=omega) only[push_cast,qE,h3,h6,h7,h8]
  refine callV en_93 (cIs (fun w' hw'=>clip_walk w' va l.length vc hle.2.1 hle.2.2) ?_)
  simp (disch:=omega) only[push_cast,qE,h3,h6,h7,h8]
  have hxl:=hro.1
  refine fun w' hw'=>⟨_,L,rfl,hw',hLn,va,l.length,xs,rfl,Nat.le_refl _,by omega,hx.mono (fun p hp=>hro.mem hp),hxl,?_⟩
  obtain ⟨h0,⟨q1,q2,q3⟩|⟨b,cap,cs,q1,q2,q3,q4,q5,q6,q7⟩⟩:=hro
  ·exact .inl (List.eq_nil_of_length_eq_zero q2)
  ·injection q1 with r1 r2 r3
   exact .inr ⟨b,cs,_,r1,by rw[q2]; exact .head _,q7⟩
theorem copied_walk (w:World) (lo:Nat) (l:List Fld) (a:Option Addr) (c:Nat) (hlo:lo≤w.heap.size) (hr:Rd w lo a l) (hc:l.length≤c) (hc2:c≤9223372036854775807) (hl:l.length≤32) (hok:okT l=true) :
 Calls Tryz.prog 60 #[.slice a l.length c] w (RetsN w (fun v M=>CopyS v M l)):=by
 have key:∀ n,∀ m,m < n→CopyOK m:=fun n=>by
  induction n with
  | zero=>intro m h; omega
  | succ n ih =>
   intro m hm
   exact copied_step m fun k hk=>ih k (by omega)
 exact key (SizeOf.sizeOf l+2) (SizeOf.sizeOf l+1) (by omega) w lo l a c hlo hr hc hc2 hl hok (by omega)
end Go.Proofs.YtdmdgkpjjpijdaaGreatDoor
