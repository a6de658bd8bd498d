/- Texts of this claim: Zq27, Zq28, Zw8, Zq29, Zw14, Zw10, Zw15, Zq30, Zw12, Zq31, Zq32, Zq33. -/
import Derived.Test.YtiipeibaiphmpaaGreatDoorSb73
import Derived.Test.YtiipeibaiphmpaaGreatDoorSb53
import Derived.Test.YtiipeibaiphmpaaGreatDoorSb16
import Derived.Test.YtiipeibaiphmpaaGreatDoorSb38
set_option linter.unusedVariables false
set_option linter.unusedSimpArgs false
set_option maxHeartbeats 4000000
namespace Go.Vai
theorem dir_ds {a b y:Pt} {vx vy:Q2} (ha:PK a) (hb:PK b) (hy:PK y) (A:Dseg a b vx vy) (B:Dseg a y vx vy):dsI y a b ≤ 0 ∨ dsI b a y ≤ 0:=by
 refine Classical.byContradiction fun hno=>?_
 have h1:0 < dsI y a b:=by omega
 have h2:0 < dsI b a y:=by omega
 have v1:=ds_val hy ha hb
 have v2:=ds_val hb ha hy
 have p1:Pos ((val y.x - val a.x) * (val y.x - val b.x) + (val y.y - val a.y) * (val y.y - val b.y)):=by
  rcases v1 with ⟨-,h⟩ | ⟨h,-⟩ | ⟨h,-⟩
  ·exact h
  ·omega
  ·omega
 have p2:Pos ((val b.x - val a.x) * (val b.x - val y.x) + (val b.y - val a.y) * (val b.y - val y.y)):=by
  rcases v2 with ⟨-,h⟩ | ⟨h,-⟩ | ⟨h,-⟩
  ·exact h
  ·omega
  ·omega
 have q1:=A.par
 have q2:=B.par
 have f1:=A.fwd
 have f2:=B.fwd
 have N:=A.sq
 have c1:vx * (val y.y - val b.y) = vy * (val y.x - val b.x):=by grind
 have c2:vx * (val b.y - val y.y) = vy * (val b.x - val y.x):=by grind
 have r1:=N.times p1
 rw [dot_par q2 c1] at r1
 have r2:=N.times p2
 rw [dot_par q1 c2] at r2
 have s1:Pos (vx * (val y.x - val b.x) + vy * (val y.y - val b.y)):=Pos.of_times (y:=vx * (val y.x - val a.x) + vy * (val y.y - val a.y)) (by rwa [show (vx * (val y.x - val b.x) + vy * (val y.y - val b.y)) * (vx * (val y.x - val a.x) + vy * (val y.y - val a.y)) = 1 * ((vx * (val y.x - val a.x) + vy * (val y.y - val a.y)) * (vx * (val y.x - val b.x) + vy * (val y.y - val b.y))) by grind]) f2
 have s2:Pos (vx * (val b.x - val y.x) + vy * (val b.y - val y.y)):=Pos.of_times (y:=vx * (val b.x - val a.x) + vy * (val b.y - val a.y)) (by rwa [show (vx * (val b.x - val y.x) + vy * (val b.y - val y.y)) * (vx * (val b.x - val a.x) + vy * (val b.y - val a.y)) = 1 * ((vx * (val b.x - val a.x) + vy * (val b.y - val a.y)) * (vx * (val b.x - val y.x) + vy * (val b.y - val y.y))) by grind]) f1
 exact s1.anti (by rwa [show -(vx * (val y.x - val b.x) + vy * (val y.y - val b.y)) = vx * (val b.x - val y.x) + vy * (val b.y - val y.y) by grind])
theorem dir_on {a b y:Pt} (ha:PK a) (hb:PK b) (hy:PK y) (hd:0 ≤ dirR (pminus b a)) (he:dirR (pminus y a) = dirR (pminus b a)):isOnB a b y = true ∨ isOnB a y b = true:=by
 have hd':0 ≤ dirR (pminus y a):=by omega
 have A:=dseg ha hb hd
 have B:=dseg ha hy hd'
 rw [he] at B
 have o1:ornt a b y = 0:=by
  rw [or_zero ha hb hy hd,par_y ha hb ha hy hd hd' (by rw [he])]
  exact (sd_ends ha hb hd).1
 have o2:ornt a y b = 0:=by
  rw [or_zero ha hy hb hd',par_y ha hy ha hb hd' hd (by rw [he])]
  exact (sd_ends ha hy hd').1
 unfold isOnB
 rw [o1,o2]
 rcases dir_ds ha hb hy A B with h | h
 ·left; simp [h]
 ·right; simp [h]
theorem dir_back {a b:Pt} (ha:PK a) (hb:PK b) (hd:0 ≤ dirR (pminus b a)):0 ≤ dirR (pminus a b):=by
 obtain ⟨o1,o2⟩:=side_ends ha hb hd
 refine (sideL_on (sideL_ok ha) hb ha o2 o1 fun he=>?_).1
 have f:=(dseg ha hb hd).fwd
 rw [he.1,he.2] at f
 exact f.ne (by grind)
theorem isOn_comm {a b x:Pt} (ha:PK a) (hb:PK b) (hx:PK x):isOnB a b x = isOnB b a x:=by
 have h1:=or_val ha hb hx
 have h2:=or_val hb ha hx
 have d1:=ds_val hx ha hb
 have d2:=ds_val hx hb ha
 have e:dsI x a b = dsI x b a:=d1.eq d2 (by grind)
 have z:ornt a b x = 0 ↔ ornt b a x = 0:=by
  constructor
  ·intro h
   rw [h] at h1
   have:=h1.zero
   exact h2.eq (.inr (.inl ⟨rfl,rfl⟩)) (by grind)
  ·intro h
   rw [h] at h2
   have:=h2.zero
   exact h1.eq (.inr (.inl ⟨rfl,rfl⟩)) (by grind)
 unfold isOnB
 rw [e,decide_eq_decide.2 z]
def awayR (ps:List Pt) (c:Cr) (k:Int):Int:=dirR (pminus (pI ps (c.a + c.b - k)) (pI ps k))
theorem away_inj {ps:List Pt} {c d:Cr} (hv:∀ p ∈ ps,PV p) (hc:Cin ps.length c) (hd:Cin ps.length d) (hdc:0 ≤ dirC ps c) (hdd:0 ≤ dirC ps d) (hap:apC ps c d = true) (hab:¬ (c.a = d.a ∧ c.b = d.b)) {k:Int}
  (h1:c.a = k ∨ c.b = k) (h2:d.a = k ∨ d.b = k):awayR ps c k ≠ awayR ps d k:=by
 obtain ⟨a0,ab,bn⟩:=hc
 obtain ⟨c0,cd,dn⟩:=hd
 have A:=(pI_pv hv (i:=c.a) a0 (by omega)).pk
 have B:=(pI_pv hv (i:=c.b) (by omega) bn).pk
 have X:=(pI_pv hv (i:=d.a) c0 (by omega)).pk
 have Y:=(pI_pv hv (i:=d.b) (by omega) dn).pk
 unfold dirC at hdc hdd
 unfold apC apartB at hap
 unfold awayR
 intro he
 rcases h1 with h1 | h1 <;> rcases h2 with h2 | h2
 ·rw [show c.a + c.b - k = c.b by omega,show d.a + d.b - k = d.b by omega,← h1] at he
  rw [if_pos (by omega)] at hap
  have e:d.a = c.a:=by omega
  rw [e] at hap
  rcases dir_on A B Y hdc he.symm with h | h <;> rw [h] at hap <;> simp at hap
 ·rw [show c.a + c.b - k = c.b by omega,show d.a + d.b - k = d.a by omega,← h1] at he
  rw [if_neg (by omega),if_neg (by omega),if_pos (by omega)] at hap
  have e:d.b = c.a:=by omega
  rw [e] at hap
  rw [isOn_comm X A B] at hap
  rcases dir_on A B X hdc he.symm with h | h <;> rw [h] at hap <;> simp at hap
 ·rw [show c.a + c.b - k = c.a by omega,show d.a + d.b - k = d.b by omega,← h1] at he
  rw [if_neg (by omega),if_neg (by omega),if_neg (by omega),if_pos (by omega)] at hap
  have e:d.a = c.b:=by omega
  rw [e] at hap
  rw [isOn_comm A B Y] at hap
  rcases dir_on B A Y (dir_back A B hdc) he.symm with h | h <;> rw [h] at hap <;> simp at hap
 ·rw [show c.a + c.b - k = c.a by omega,show d.a + d.b - k = d.a by omega,← h1] at he
  rw [if_neg (by omega),if_pos (by omega)] at hap
  have e:d.b = c.b:=by omega
  rw [e] at hap
  rw [isOn_comm A B X,isOn_comm X B A] at hap
  rcases dir_on B A X (dir_back A B hdc) he.symm with h | h <;> rw [h] at hap <;> simp at hap
end Go.Vai
namespace Go.Vai
def insB (key:Int → Int) (x:Int):List Int → List Int
 | []=>[x]
 | y :: l=>if key y < key x then y :: insB key x l else x :: y :: l
def atN (key:Int → Int) (x:Int):List Int → Nat
 | []=>0
 | y :: l=>if key y < key x then atN key x l + 1 else 0
theorem atN_le (key:Int → Int) (x:Int):∀ l:List Int,atN key x l ≤ l.length
 | []=>Nat.le_refl _
 | y :: l=>by
  have:=atN_le key x l
  simp only [atN]; split <;> simp <;> omega
theorem insB_at (key:Int → Int) (x:Int):∀ l:List Int,insB key x l = l.take (atN key x l) ++ x :: l.drop (atN key x l)
 | []=>rfl
 | y :: l=>by
  simp only [insB,atN]
  split
  ·rw [insB_at key x l]; simp
  ·simp
theorem atN_lt (key:Int → Int) (x:Int):∀ (l:List Int) (j:Nat) (hj:j < l.length),j < atN key x l → key l[j] < key x
 | [],j,hj,_=>by simp at hj
 | y :: l,0,_,h=>by
  simp only [atN] at h
  split at h
  ·rename_i hc; simpa using hc
  ·omega
 | y :: l,j + 1,hj,h=>by
  simp only [atN] at h
  split at h
  ·simpa using atN_lt key x l j (by simpa using hj) (by omega)
  ·omega
theorem atN_stop (key:Int → Int) (x:Int):∀ (l:List Int) (h:atN key x l < l.length),¬ key l[atN key x l] < key x
 | [],h=>by simp at h
 | y :: l,h=>by
  by_cases hc:key y < key x
  ·have e:atN key x (y :: l) = atN key x l + 1:=by simp only [atN]; rw [if_pos hc]
   simp only [e] at h ⊢
   simpa using atN_stop key x l (by simpa using h)
  ·have e:atN key x (y :: l) = 0:=by simp only [atN]; rw [if_neg hc]
   simp only [e]
   simpa using hc
theorem insB_perm (key:Int → Int) (x:Int):∀ l:List Int,(insB key x l).Perm (x :: l)
 | []=>.refl _
 | y :: l=>by
  simp only [insB]
  split
  ·exact ((insB_perm key x l).cons y).trans (.swap x y l)
  ·exact .refl _
theorem insB_sorted (key:Int → Int) (x:Int):∀ l:List Int,l.Pairwise (fun a b=>key a < key b) → (∀ y ∈ l,key y ≠ key x) → (insB key x l).Pairwise fun a b=>key a < key b
 | [],_,_=>by simp [insB]
 | y :: l,h,hne=>by
  obtain ⟨h1,h2⟩:=List.pairwise_cons.1 h
  simp only [insB]
  split
  ·rename_i hc
   refine List.pairwise_cons.2 ⟨fun z hz=>?_,insB_sorted key x l h2 fun z hz=>hne z (by simp [hz])⟩
   rcases List.mem_cons.1 ((insB_perm key x l).mem_iff.1 hz) with rfl | hz
   ·exact hc
   ·exact h1 z hz
  ·rename_i hc
   have hy:=hne y (by simp)
   refine List.pairwise_cons.2 ⟨fun z hz=>?_,h⟩
   rcases List.mem_cons.1 hz with rfl | hz
   ·omega
   ·have:=h1 z hz; omega
theorem sorted_one (key:Int → Int):∀ {l m:List Int},l.Perm m → l.Pairwise (fun a b=>key a < key b) → m.Pairwise (fun a b=>key a < key b) → l = m
 | [],m,hp,_,_=>(List.nil_perm.1 hp).symm
 | x :: l,m,hp,h1,h2=>by
  cases m with
  | nil=>exact absurd (List.perm_nil.1 hp) (by simp)
  | cons y m =>
   obtain ⟨a1,a2⟩:=List.pairwise_cons.1 h1
   obtain ⟨b1,b2⟩:=List.pairwise_cons.1 h2
   have hxy:x = y:=by
    have hx:=hp.mem_iff.1 (List.mem_cons_self (a:=x) (l:=l))
    have hy:=hp.mem_iff.2 (List.mem_cons_self (a:=y) (l:=m))
    rcases List.mem_cons.1 hx with e | hx
    ·exact e
    ·rcases List.mem_cons.1 hy with e | hy
     ·exact e.symm
     ·have:=b1 x hx; have:=a1 y hy; omega
   subst hxy
   rw [sorted_one key (List.Perm.cons_inv hp) a2 b2]
end Go.Vai
set_option maxHeartbeats 8000000
set_option maxRecDepth 20000
namespace Go.Vai
theorem vB_facts {ps:List Pt} {cs:List Cr} (hv:vB ps cs = true):nmsOk ps cs = true ∧ (∀ p ∈ ps,vP p = true) ∧ ps.length ≤ 40 ∧ cs.length ≤ 70:=by
 have hvB:vB ps cs = ((lstB ps cs && dirsOk ps cs) && (planB ps cs && (conB ps.length cs && ((papO ps cs).isSome && insAll ps ((papO ps cs).getD []) cs)))):=by unfold vB; rw [Bool.and_assoc]
 rw [hvB] at hv
 simp only [Bool.and_eq_true] at hv
 have h1:=hv.1.1
 unfold lstB at h1
 simp only [Bool.and_eq_true,decide_eq_true_eq] at h1
 obtain ⟨⟨h40,h70⟩,hpts,hnm⟩:=h1
 exact ⟨hnm,ptsOk_vp hpts,by omega,by omega⟩
end Go.Vai
set_option maxHeartbeats 4000000
namespace Go.Vai
def atB (cs:List Cr) (k:Int) (i:Nat):Bool:=decide ((getK cs i).a = k) || decide ((getK cs i).b = k)
def atI (cs:List Cr) (k:Int):Nat → List Int
 | 0=>[]
 | n + 1=>atI cs k n ++ if atB cs k n = true then [(n:Int)] else []
def keyA (ps:List Pt) (cs:List Cr) (k:Int) (i:Int):Int:=awayR ps (getK cs i.toNat) k
def atS (ps:List Pt) (cs:List Cr) (k:Int):Nat → List Int
 | 0=>[]
 | n + 1=>if atB cs k n = true then insB (keyA ps cs k) n (atS ps cs k n) else atS ps cs k n
theorem atI_len (cs:List Cr) (k:Int):∀ n,(atI cs k n).length ≤ n
 | 0=>by simp [atI]
 | n + 1=>by
  have:=atI_len cs k n
  simp only [atI]; split <;> simp <;> omega
theorem atI_mem {cs:List Cr} {k:Int}:∀ {n:Nat} {x:Int},x ∈ atI cs k n → ∃ i:Nat,i < n ∧ x = i ∧ atB cs k i = true
 | 0,x,h=>by simp [atI] at h
 | n + 1,x,h=>by
  simp only [atI,List.mem_append] at h
  rcases h with h | h
  ·obtain ⟨i,h1,h2⟩:=atI_mem h
   exact ⟨i,by omega,h2⟩
  ·split at h
   ·rename_i hc
    simp at h
    exact ⟨n,by omega,h,hc⟩
   ·simp at h
theorem atS_perm (ps:List Pt) (cs:List Cr) (k:Int):∀ n,(atS ps cs k n).Perm (atI cs k n)
 | 0=>.refl _
 | n + 1=>by
  simp only [atS,atI]
  split
  ·exact (insB_perm _ _ _).trans (((atS_perm ps cs k n).cons _).trans (List.perm_append_comm (l₁:=[(n:Int)]) (l₂:=atI cs k n)))
  ·simpa using atS_perm ps cs k n
theorem atS_len (ps:List Pt) (cs:List Cr) (k:Int) (n:Nat):(atS ps cs k n).length = (atI cs k n).length:=(atS_perm ps cs k n).length_eq
theorem vB_more {ps:List Pt} {cs:List Cr} (hv:vB ps cs = true):dirsOk ps cs = true ∧ planB ps cs = true:=by
 have hvB:vB ps cs = ((lstB ps cs && dirsOk ps cs) && (planB ps cs && (conB ps.length cs && ((papO ps cs).isSome && insAll ps ((papO ps cs).getD []) cs)))):=by unfold vB; rw [Bool.and_assoc]
 rw [hvB] at hv
 simp only [Bool.and_eq_true] at hv
 exact ⟨hv.1.2,hv.2.1⟩
theorem key_ne {ps:List Pt} {cs:List Cr} (hv:vB ps cs = true) {k:Int} {i j:Nat} (hij:i < j) (hj:j < cs.length) (h1:atB cs k i = true) (h2:atB cs k j = true):keyA ps cs k i ≠ keyA ps cs k j:=by
 obtain ⟨hnm,hvp,-,-⟩:=vB_facts hv
 obtain ⟨hdir,hpl⟩:=vB_more hv
 have hcin:=nmsOk_cin hnm
 have mi:=getK_mem (cs:=cs) (i:=i) (by omega)
 have mj:=getK_mem (cs:=cs) (i:=j) hj
 have hd:∀ c ∈ cs,0 ≤ dirC ps c:=fun c hc=>by
  unfold dirsOk at hdir
  rw [List.all_eq_true] at hdir
  simpa using hdir c hc
 have hap:apC ps (getK cs j) (getK cs i) = true:=by
  unfold planB at hpl
  rw [List.all_eq_true] at hpl
  have h3:=hpl j (List.mem_range.2 hj)
  rw [List.all_eq_true] at h3
  refine h3 (getK cs i) ?_
  rw [(getK_get (cs:=cs) (k:=i) (by omega)).2]
  exact List.mem_iff_getElem?.2 ⟨i,by rw [List.getElem?_take_of_lt hij,List.getElem?_eq_getElem (by omega)]⟩
 have hab:¬ ((getK cs j).a = (getK cs i).a ∧ (getK cs j).b = (getK cs i).b):=fun e=>by
  have hp:=nms_pair hnm
  rw [List.pairwise_iff_getElem] at hp
  have:=hp i j (by omega) hj hij
  rw [← (getK_get (cs:=cs) (k:=i) (by omega)).2,← (getK_get (cs:=cs) (k:=j) hj).2] at this
  exact this ⟨e.1.symm,e.2.symm⟩
 unfold atB at h1 h2
 rw [Bool.or_eq_true,decide_eq_true_eq,decide_eq_true_eq] at h1 h2
 unfold keyA
 simp only [Int.toNat_natCast]
 exact fun e=>away_inj (fun p hp=>vP_bound (hvp p hp)) (hcin _ mj) (hcin _ mi) (hd _ mj) (hd _ mi) hap hab h2 h1 e.symm
theorem atS_sorted {ps:List Pt} {cs:List Cr} (hv:vB ps cs = true) (k:Int):∀ n,n ≤ cs.length → (atS ps cs k n).Pairwise fun a b=>keyA ps cs k a < keyA ps cs k b
 | 0,_=>by simp [atS]
 | n + 1,hn=>by
  have ih:=atS_sorted hv k n (by omega)
  simp only [atS]
  split
  ·rename_i hc
   refine insB_sorted _ _ _ ih fun y hy=>?_
   obtain ⟨i,h1,rfl,h3⟩:=atI_mem ((atS_perm ps cs k n).mem_iff.1 hy)
   exact key_ne hv h1 (by omega) h3 hc
  ·exact ih
theorem atS_one {ps:List Pt} {cs:List Cr} (hv:vB ps cs = true) {k:Int} {m:List Int} (hp:m.Perm (atI cs k cs.length)) (hs:m.Pairwise fun a b=>¬ keyA ps cs k b < keyA ps cs k a):m = atS ps cs k cs.length:=by
 have hS:=atS_sorted hv k cs.length (Nat.le_refl _)
 have hP:=atS_perm ps cs k cs.length
 refine sorted_one (keyA ps cs k) (hp.trans hP.symm) ?_ hS
 have hne:(atS ps cs k cs.length).Pairwise fun a b=>keyA ps cs k a ≠ keyA ps cs k b:=hS.imp fun h=>by omega
 have hne2:m.Pairwise fun a b=>keyA ps cs k a ≠ keyA ps cs k b:=((hp.trans hP.symm).pairwise_iff (fun h e=>h e.symm)).2 hne
 exact (hs.and hne2).imp fun h=>by omega
end Go.Vai
namespace Go.Vai
theorem ncmp_range (x y:Nu):ncmp x y = -1 ∨ ncmp x y = 0 ∨ ncmp x y = 1:=nsign_range (nsub x y)
theorem ncmp_lt_trans {x y z:Nu} (hx:0 ≤ x.k) (hy:0 ≤ y.k) (hz:0 ≤ z.k) (h1:ncmp x y < 0) (h2:ncmp y z < 0):ncmp x z < 0:=by
 have e1:ncmp x y = -1:=by rcases ncmp_range x y with h | h | h <;> omega
 have e2:ncmp y z = -1:=by rcases ncmp_range y z with h | h | h <;> omega
 have p:=ncmp_neg hx hy e1
 have q:=ncmp_neg hy hz e2
 have s:Pos (val z - val x):=by rw [show val z - val x = (val y - val x) + (val z - val y) by grind]; exact p.add q
 rcases ncmp_range x z with h | h | h
 ·omega
 ·exact absurd ((ncmp_zero hx hz).1 h) (fun e=>s.ne (by rw [e]; grind))
 ·have t:=ncmp_pos hx hz h
  exact (s.anti (by rwa [show -(val z - val x) = val x - val z by grind])).elim
theorem ncmp_eq_l {x x' y:Nu} (hx:0 ≤ x.k) (hx':0 ≤ x'.k) (hy:0 ≤ y.k) (h:ncmp x x' = 0):ncmp x y = ncmp x' y:=nsub_val hx hy hx' hy ((ncmp_zero hx hx').1 h) rfl
theorem ncmp_eq_r {x y y':Nu} (hx:0 ≤ x.k) (hy:0 ≤ y.k) (hy':0 ≤ y'.k) (h:ncmp y y' = 0):ncmp x y = ncmp x y':=nsub_val hx hy hx hy' rfl ((ncmp_zero hy hy').1 h)
theorem pcmp_trans {p q r:Pt} (hp:PK p) (hq:PK q) (hr:PK r) (h1:pcmp p q < 0) (h2:pcmp q r < 0):pcmp p r < 0:=by
 unfold pcmp at *
 by_cases a:ncmp p.x q.x = 0
 ·have e:=ncmp_eq_l hp.1 hq.1 hr.1 a
  rw [if_pos a] at h1
  by_cases b:ncmp q.x r.x = 0
  ·rw [if_pos b] at h2
   rw [e,if_pos b]; exact ncmp_lt_trans hp.2 hq.2 hr.2 h1 h2
  ·rw [if_neg b] at h2
   rw [e,if_neg b]; exact h2
 ·rw [if_neg a] at h1
  by_cases b:ncmp q.x r.x = 0
  ·have e:=ncmp_eq_r hp.1 hq.1 hr.1 b
   rw [← e,if_neg a]; exact h1
  ·rw [if_neg b] at h2
   have t:=ncmp_lt_trans hp.1 hq.1 hr.1 h1 h2
   rw [if_neg (by omega)]; exact t
theorem leastF_min {l:List Pt} (hp:∀ p ∈ l,PK p):∀ {k:Nat},k ≤ l.length → ∀ j,j < k → ¬ pcmp (nth l j) (nth l (leastF l k)) < 0
 | 0,_=>fun j hj=>by omega
 | k + 1,hk=>fun j hj=>by
  have ih:=leastF_min hp (k:=k) (by omega)
  have hl:=leastF_lt (l:=l) (k:=k) (by omega) (by omega)
  unfold leastF
  split
  ·rename_i hc
   rcases Nat.lt_succ_iff_lt_or_eq.1 hj with hj' | rfl
   ·intro h; exact ih j hj' (pcmp_trans (hp _ (nth_mem (by omega))) (hp _ (nth_mem (by omega))) (hp _ (nth_mem hl)) h hc)
   ·rw [pcmp_self _ (hp _ (nth_mem (by omega)))]; omega
  ·rename_i hc
   rcases Nat.lt_succ_iff_lt_or_eq.1 hj with hj' | rfl
   ·exact ih j hj'
   ·exact hc
theorem rot0_least {l:List Pt} (hp:∀ p ∈ l,PK p):least (rot0 l) = 0:=by
 by_cases h:l = []
 ·subst h; rfl
 have hlt:least l < l.length:=leastF_lt (Nat.le_refl _) (List.length_pos_iff.2 h)
 have h0:nth (rot0 l) 0 = nth l (least l):=by
  unfold rot0
  rw [List.drop_eq_getElem_cons hlt,nth_eq hlt]
  rfl
 refine leastF_zero fun j hj=>?_
 obtain ⟨i,hi,e⟩:=List.getElem_of_mem (rot0_mem (nth_mem hj))
 rw [h0,← e,← nth_eq hi]
 exact leastF_min hp (Nat.le_refl _) i hi
theorem vB_okR {ps:List Pt} {cs:List Cr} (hv:vB ps cs = true):okR cs = true ∧ nmsOk ps cs = true ∧ (∀ p ∈ ps,vP p = true) ∧ ∃ m,nrmO (corC ps cs) = some m:=by
 have hvB:vB ps cs = ((lstB ps cs && dirsOk ps cs) && (planB ps cs && (conB ps.length cs && ((papO ps cs).isSome && insAll ps ((papO ps cs).getD []) cs)))):=by unfold vB; rw [Bool.and_assoc]
 rw [hvB] at hv
 simp only [Bool.and_eq_true] at hv
 have h1:=hv.1.1
 have h2:=hv.2.2.2.1
 unfold lstB at h1
 simp only [Bool.and_eq_true,decide_eq_true_eq] at h1
 obtain ⟨-,hpts,hnm⟩:=h1
 by_cases ho:okR cs = true
 ·refine ⟨ho,hnm,ptsOk_vp hpts, ?_⟩
  unfold papO at h2
  rw [if_pos ho] at h2
  exact Option.isSome_iff_exists.1 h2
 ·have e:papO ps cs = none:=by unfold papO; rw [if_neg ho]
  rw [e] at h2
  simp at h2
theorem conv_pol {ps:List Pt} {cs:List Cr} (hv:vB ps cs = true):convI (rot0 (corC ps cs)) = polI (rot0 (corC ps cs)):=by
 obtain ⟨ho,hnm,hvp,m,hm⟩:=vB_okR hv
 have hcv:∀ p ∈ corC ps cs,vP p = true:=fun p hp=>hvp p (cor_mem hnm ho p hp)
 have hk:∀ p ∈ corC ps cs,PK p:=fun p hp=>(vP_bound (hcv p hp)).pk
 rw [nrm_eq hcv] at hm
 generalize corC ps cs = C at *
 have hlen:3 ≤ (rot0 C).length ∧ (rot0 C).length ≤ 16:=by
  split at hm
  ·rename_i h; exact polI_len h
  ·split at hm
   ·rename_i h
    have:=polI_len h
    rw [rot0_len,List.length_reverse] at this
    rw [rot0_len]; exact this
   ·simp at hm
 have hall:(rot0 C).all vP = true:=List.all_eq_true.2 fun p hp=>hcv p (rot0_mem hp)
 have hin:inB (rot0 C).length 3 16 = true:=by rw [inB_iff]; omega
 unfold polI
 rw [hall,hin,rot0_least hk]
 simp
end Go.Vai
set_option maxHeartbeats 8000000
namespace Go.Vai
def marks (k:Int) (n:Nat):List Int:=(List.range n).map fun i:Nat=>k + (i:Int)
@[simp] theorem marks_len (k:Int) (n:Nat):(marks k n).length = n:=by simp [marks]
theorem marks_set (k:Int) (vs:List Int) (q:Nat) (hq:q < vs.length):((marks k q ++ vs.drop q).map encI).set q [.int .i64 (k + q)] = (marks k (q + 1) ++ vs.drop (q + 1)).map encI:=by
 rw [show ((marks k q ++ vs.drop q).map encI).set q [.int .i64 (k + q)] = ((marks k q ++ vs.drop q).set q (k + q)).map encI by simp [List.map_set,encI]]
 congr 1
 rw [List.set_append_right _ _ (by simp),marks_len,Nat.sub_self,List.drop_eq_getElem_cons hq,List.set_cons_zero]
 simp [marks,List.range_succ]
theorem c19 (vs:List Int) (k:Int) (h0:0 ≤ k) (h1:k + vs.length ≤ 1099511627776):PM E 19 [.sl ⟨1,vs.map encI⟩,.i (.i (.int .i64 k))] [⟨1,(marks k vs.length).map encI⟩] [.i (.int .i64 (k + vs.length))]:=by
 refine PM_start hE Proofs.Tryz.func19 rfl rfl Proofs.Tryz.ntmps19 (by kernel_rfl) (by kernel_rfl) (by simp) (by simp) ?_
 simp (maxSteps:=999999) (disch:=first|exact {}|omega|simp) [zS]
 refine XL.by hE (ι:={ q:Nat // q ≤ vs.length }) (fun q=>⟨[(0,.own 700000 0 vs.length),(1,.i (.int .i64 (k + q.1))),(5,.i (.int .i64 q.1))],[(700000,⟨1,(marks k q.1 ++ vs.drop q.1).map encI⟩)]⟩)
  (fun q=>vs.length - q.1) ⟨0,Nat.zero_le _⟩ ⟨by simp,by simp [marks],by simp⟩ (by kernel_rfl) ?_
 rintro ⟨q,hq⟩
 by_cases hlt:q < vs.length
 ·have hs:=marks_set k vs q hlt
  have hl:(marks k q ++ vs.drop q).length = vs.length:=by simp; omega
  have hg:(marks k q ++ vs.drop q)[q]? = some vs[q]:=by rw [List.getElem?_append_right (by simp)]; simp [hlt]
  have hg2:((marks k q ++ vs.drop q).map encI)[q]? = some [.int .i64 vs[q]]:=by rw [List.getElem?_map,hg]; rfl
  have hAl:((marks k q ++ vs.drop q).map encI).length = vs.length:=by rw [List.length_map]; exact hl
  generalize (marks k q ++ vs.drop q).map encI = A at *
  obtain ⟨hq2,hg4⟩:=List.getElem?_eq_some_iff.1 hg2
  simp (maxSteps:=999999) (disch:=first|exact {}|omega|simp) [zS,hlt,hg4,hAl]
  (refine ⟨⟨q + 1,by omega⟩,by (simp; try omega), ?_⟩; constructor <;> (simp (maxSteps:=999999) (disch:=first|exact {}|omega|simp) [zS,hs,-List.map_append]) <;> (try omega))
  rw [List.map_append,List.map_drop]
 ·obtain rfl:q = vs.length:=by omega
  simp (maxSteps:=999999) (disch:=first|exact {}|omega|simp) [zS,hlt]
theorem c20 (n:Nat) (k:Int) (h0:0 ≤ k) (h1:k + n ≤ 1099511627776):PC E 20 [.i (.sl ((marks k n).map encI)),.i (.int .i64 k)] [.i (.int .i64 (k + n))]:=by
 refine zP hE Proofs.Tryz.func20 Proofs.Tryz.ntmps20 rfl rfl ?_
 simp (maxSteps:=999999) (disch:=first|exact {}|omega|simp) [zS]
 refine XL.by hE (ι:={ q:Nat // q ≤ n }) (fun q=>⟨[(0,.i (.sl ((marks k n).map encI))),(1,.i (.int .i64 (k + q.1))),(5,.i (.int .i64 q.1))],[]⟩)
  (fun q=>n - q.1) ⟨0,Nat.zero_le _⟩ ⟨by simp,by simp,by simp⟩ (by kernel_rfl) ?_
 rintro ⟨q,hq⟩
 by_cases hlt:q < n
 ·have hg:(marks k n)[q]? = some (k + q):=by simp [marks,hlt]
  simp (maxSteps:=999999) (disch:=first|exact {}|omega|simp) [zS,hlt,encI,hg]
  (refine ⟨⟨q + 1,by omega⟩,by (simp; try omega), ?_⟩; constructor <;> (simp (maxSteps:=999999) (disch:=first|exact {}|omega|simp) [zS]) <;> (try omega))
 ·obtain rfl:q = n:=by omega
  simp (maxSteps:=999999) (disch:=first|exact {}|omega|simp) [zS,hlt]
theorem flatInt (l:List Int):∀ el ∈ l.map encI,flatC el:=fun el hel=>by
 obtain ⟨a,-,rfl⟩:=List.mem_map.1 hel
 intro x hx
 simp [encI] at hx
 subst hx; rfl
def kn (l:List Cr) (v:Nat):Nat:=(l.filter fun c=>decide (c.k = (v:Int) + 1)).length
def cntK (cs:List Cr) (k:Nat):List Int:=(List.range 4).map fun v=>(kn (cs.take k) v:Int)
@[simp] theorem cntK_len (cs:List Cr) (k:Nat):(cntK cs k).length = 4:=by simp [cntK]
theorem numB_k {ps:List Pt} {cs:List Cr} (h:nmsOk ps cs = true) {k:Nat} (hk:k < cs.length):1 ≤ (getK cs k).k ∧ (getK cs k).k ≤ 4:=by
 unfold nmsOk at h
 rw [List.all_eq_true] at h
 have:=h k (List.mem_range.2 hk)
 unfold crNum numB at this
 simp only [Bool.and_eq_true] at this
 have h3:=this.1.2.2
 simpa [inB] using h3
end Go.Vai
namespace Go.Vai
def nthI (l:List Int) (k:Nat):Int:=l.getD k 0
theorem nthI_eq {l:List Int} {k:Nat} (h:k < l.length):nthI l k = l[k]:=by simp [nthI,h]
theorem nthI_set {l:List Int} {a t:Nat} {x:Int} (h:a < l.length):nthI (l.set a x) t = if t = a then x else nthI l t:=by
 unfold nthI
 by_cases e:t = a
 ·subst e; simp [h]
 ·rw [List.getD_eq_getElem?_getD,List.getElem?_set_ne (fun e'=>e e'.symm),if_neg e,List.getD_eq_getElem?_getD]
theorem nthI_rev {l:List Int} {t:Nat} (h:t < l.length):nthI l.reverse t = nthI l (l.length - 1 - t):=by
 unfold nthI
 rw [List.getD_eq_getElem?_getD,List.getElem?_reverse h,List.getD_eq_getElem?_getD]
theorem ext_nthI {l m:List Int} (hl:l.length = m.length) (h:∀ t,t < l.length → nthI l t = nthI m t):l = m:=by
 refine List.ext_getElem hl fun t h1 h2=>?_
 have:=h t h1
 rwa [nthI_eq h1,nthI_eq h2] at this
def RvI (l M:List Int) (i:Nat):Prop:=∀ t,t < l.length → nthI M t = if t < i ∨ l.length - i ≤ t then nthI l (l.length - 1 - t) else nthI l t
theorem RvI.start (l:List Int):RvI l l 0:=fun t ht=>by rw [if_neg (by omega)]
theorem RvI.step {l M:List Int} {i:Nat} (hM:M.length = l.length) (h:RvI l M i) (hi:i < l.length - 1 - i):RvI l ((M.set i (nthI M (l.length - 1 - i))).set (l.length - 1 - i) (nthI M i)) (i + 1):=fun t ht=>by
 have h1:=h i (by omega)
 have h2:=h (l.length - 1 - i) (by omega)
 rw [if_neg (by omega)] at h1 h2
 rw [nthI_set (by simp; omega),nthI_set (by omega)]
 by_cases e1:t = l.length - 1 - i
 ·rw [if_pos e1,if_pos (by omega),h1,e1]; congr 1; omega
 ·rw [if_neg e1]
  by_cases e2:t = i
  ·rw [if_pos e2,if_pos (by omega),h2,e2]
  ·rw [if_neg e2,h t ht]
   by_cases e3:t < i ∨ l.length - i ≤ t
   ·rw [if_pos e3,if_pos (by omega)]
   ·rw [if_neg e3,if_neg (by omega)]
theorem RvI.done {l M:List Int} {i:Nat} (hM:M.length = l.length) (h:RvI l M i) (hi:¬ (i:Int) < (l.length:Int) - 1 - i):M = l.reverse:=by
 refine ext_nthI (by simp [hM]) fun t ht=>?_
 rw [hM] at ht
 rw [h t ht,nthI_rev ht]
 by_cases e:t < i ∨ l.length - i ≤ t
 ·rw [if_pos e]
 ·rw [if_neg e]; congr 1; omega
theorem c231 (x:Int) (l:List Int) (h:(l.length:Int) ≤ 1048575):PM E 231 [.so ⟨1,(x :: l).map encI⟩ 1] [⟨1,(x :: l.reverse).map encI⟩] []:=by
 have hel:((x :: l).map encI).length = l.length + 1:=by simp
 have her:((x :: l.reverse).map encI).length = l.length + 1:=by simp
 refine PM_start hE Proofs.Tryz.func231 rfl rfl Proofs.Tryz.ntmps231 (by kernel_rfl) (by kernel_rfl) (by simp) (by simp [hel,her]) ?_
 simp (maxSteps:=999999) (disch:=first|exact {}|omega|simp) [zS,hel]
 refine XL.by hE (ι:={ p:Nat × List Int // p.2.length = l.length ∧ p.1 ≤ l.length ∧ RvI l p.2 p.1 }) (fun p=>⟨[(0,.own 700000 1 l.length),(2,.i (.int .i64 p.1.1)),(3,.i (.int .i64 ((l.length:Int) - 1 - p.1.1)))],[(700000,⟨1,(x :: p.1.2).map encI⟩)]⟩)
  (fun p=>l.length - p.1.1) ⟨(0,l),rfl,Nat.zero_le _,RvI.start l⟩ ⟨by simp,by simp,by simp⟩ (by kernel_rfl) ?_
 rintro ⟨⟨i,M⟩,hM,hi,hR⟩
 simp only at hM hi hR
 have hML:((x :: M).map encI).length = l.length + 1:=by simp [hM]
 by_cases hlt:(i:Int) < (l.length:Int) - 1 - i
 ·have hj:l.length - 1 - i < l.length:=by omega
  have hil:i < l.length:=by omega
  have ej:((l.length:Int) - 1 - i).toNat = l.length - 1 - i:=by omega
  have ej0:¬ ((l.length:Int) - 1 - i < 0):=by omega
  have gi:((x :: M).map encI)[1 + i]? = some [.int .i64 (nthI M i)]:=by rw [Nat.add_comm,List.map_cons,List.getElem?_cons_succ,List.getElem?_map,List.getElem?_eq_getElem (by omega),nthI_eq (by omega)]; rfl
  have gj:((x :: M).map encI)[1 + (l.length - 1 - i)]? = some [.int .i64 (nthI M (l.length - 1 - i))]:=by rw [Nat.add_comm,List.map_cons,List.getElem?_cons_succ,List.getElem?_map,List.getElem?_eq_getElem (by omega),nthI_eq (by omega)]; rfl
  have hS:=hR.step hM (by omega)
  have hset:(((x :: M).map encI).set (1 + i) [.int .i64 (nthI M (l.length - 1 - i))]).set (1 + (l.length - 1 - i)) [.int .i64 (nthI M i)] = (x :: (M.set i (nthI M (l.length - 1 - i))).set (l.length - 1 - i) (nthI M i)).map encI:=by
   rw [Nat.add_comm 1 i,Nat.add_comm 1 (l.length - 1 - i)]
   simp [List.map_set,encI]
  have gi2:=(List.getElem?_eq_some_iff.1 gi).2
  have gj2:=(List.getElem?_eq_some_iff.1 gj).2
  have hne:1 + i ≠ 1 + (l.length - 1 - i):=by omega
  have hSl:((M.set i (nthI M (l.length - 1 - i))).set (l.length - 1 - i) (nthI M i)).length = l.length:=by simp [hM]
  generalize (M.set i (nthI M (l.length - 1 - i))).set (l.length - 1 - i) (nthI M i) = M2 at *
  generalize (x :: M).map encI = A at *
  generalize nthI M i = q1 at *
  generalize hjd:l.length - 1 - i = j at *
  generalize nthI M j = q2 at *
  have b1:1 + i < l.length + 1:=by omega
  have b2:1 + j < l.length + 1:=by omega
  have c1:i + 1 < l.length + 1:=by omega
  have c2:j + 1 < l.length + 1:=by omega
  simp (maxSteps:=999999) (disch:=first|exact {}|omega|simp) [zS,hlt,ej,ej0,hj,hil,gi,gj,gi2,gj2,hML,hne,b1,b2]
  (refine ⟨⟨(i + 1,M2),hSl,by simp; omega,hS⟩,by (simp; try omega), ?_⟩; constructor <;> (simp (maxSteps:=999999) (disch:=first|exact {}|omega|simp) [zS,ej,ej0,hj,hil,gi,gj,gi2,gj2,hML,hset]) <;> (try omega))
 ·have hD:=hR.done hM hlt
  subst hD
  simp (maxSteps:=999999) (disch:=first|exact {}|omega|simp) [zS,hlt]
theorem backL_len (l:List Int):(backL l).length = l.length:=by unfold backL; simp; omega
theorem arrS_le {ps:List Pt} {cs:List Cr} (hc:(cs.length:Int) ≤ 1048576):((arrS ps cs).length:Int) ≤ 1048576:=by
 unfold arrS
 split
 ·rename_i hv
  obtain ⟨ho,hnm,-,-⟩:=vB_okR hv
  have:=(rnd_in hnm ho).2.1
  have hb:=backL_len (rndI cs)
  unfold arrI
  split <;> omega
 ·simp
theorem c159 (ps:List Pt) (cs:List Cr) (hv:vB ps cs = true) (h:(ps.length:Int) ≤ 1048576) (hc:(cs.length:Int) ≤ 1048576):PC E 159 [.agg (encPa ps cs)] [.own 1 ((arrI ps cs).map encI)]:=by
 obtain ⟨ho,hnm,hvp,-⟩:=vB_okR hv
 have hcp:=conv_pol hv
 obtain ⟨-,-,h40,h70⟩:=vB_facts hv
 obtain ⟨r1,r2,r3⟩:=rnd_in hnm ho
 have hpo:=c192 ps cs (rndI cs) r1 (by omega)
 have hl1:(rptC ps cs).length = (rndI cs).length:=by simp [rptC]
 have hbl:=bendN_len (rptC ps cs) (rptC ps cs).length
 have hcl:(corC ps cs).length ≤ (rptC ps cs).length:=hbl
 have hst:=c191 (rptC ps cs) (fun p hp=>vP_bound (hvp p (rpt_mem hnm ho p hp))) (by omega)
 have hcv:∀ p ∈ corC ps cs,PV p:=fun p hp=>vP_bound (hvp p (cor_mem hnm ho p hp))
 have hro:=c229 (corC ps cs) hcv (by decide) (by decide) (by omega)
 have hrl:=rot0_len (corC ps cs)
 have hcx:=c230 (rot0 (corC ps cs)) (fun p hp=>hcv p (rot0_mem hp)) (by decide) (by decide) (by omega)
 rw [hcp] at hcx
 have tX:List.take (rndI cs).length ((rndI cs).map encI) = (rndI cs).map encI:=List.take_of_length_le (by simp)
 have tY:List.take (rptC ps cs).length (encPs (rptC ps cs)) = encPs (rptC ps cs):=List.take_of_length_le (by simp)
 have tY':List.take (rndI cs).length (encPs (rptC ps cs)) = encPs (rptC ps cs):=List.take_of_length_le (by simp [hl1])
 have tZ:List.take (corC ps cs).length (encPs (corC ps cs)) = encPs (corC ps cs):=List.take_of_length_le (by simp)
 have tR:List.take (rot0 (corC ps cs)).length (encPs (rot0 (corC ps cs))) = encPs (rot0 (corC ps cs)):=List.take_of_length_le (by simp)
 have hb:=c189 ps cs hnm (by omega) (by omega)
 unfold encPa at hb hpo
 refine zP hE Proofs.Tryz.func159 Proofs.Tryz.ntmps159 rfl rfl ?_
 simp (maxSteps:=999999) (disch:=first|exact {}|omega|simp) [zS,encPa]
 refine zC (hb) ?_
 simp (maxSteps:=999999) (disch:=first|exact {}|omega|simp) [zS,tX]
 refine zC (hpo) ?_
 have e1:(rndI cs).map (pI ps) = rptC ps cs:=rfl
 simp (maxSteps:=999999) (disch:=first|exact {}|omega|simp) [zS,e1,hl1,tY,tY']
 refine zC (hst) ?_
 have e2:bendN (rptC ps cs) (rptC ps cs).length = corC ps cs:=rfl
 simp (maxSteps:=999999) (disch:=first|exact {}|omega|simp) [zS,e2,tZ]
 refine zC (hro) ?_
 simp (maxSteps:=999999) (disch:=first|exact {}|omega|simp) [zS,tR]
 refine zC (hcx) ?_
 simp (maxSteps:=999999) (disch:=first|exact {}|omega|simp) [zS]
 by_cases hp:polI (rot0 (corC ps cs)) = true
 ·have ha:arrI ps cs = rndI cs:=by unfold arrI; rw [if_pos hp]
  simp (maxSteps:=999999) (disch:=first|exact {}|omega|simp) [zS,hp,tX,ha]
 ·have ha:arrI ps cs = backL (rndI cs):=by unfold arrI; rw [if_neg hp]
  have hp':polI (rot0 (corC ps cs)) = false:=by simpa using hp
  rw [ha]
  clear ha hpo hst hro hcx hb hcp e1 e2 tX tY tY' tZ tR r1
  generalize rndI cs = L at *
  obtain ⟨x,t,rfl⟩:∃ x t,L = x :: t:=by
   cases L with
   | nil=>simp at r3
   | cons x t=>exact ⟨x,t,rfl⟩
  rw [backL_at]
  have hlt:(x :: t).length = t.length + 1:=rfl
  rw [hlt] at r2
  have tT:List.take (t.length + 1) ((x :: t.reverse).map encI) = (x :: t.reverse).map encI:=List.take_of_length_le (by simp)
  simp (maxSteps:=999999) (disch:=first|exact {}|omega|simp) [zS,hp']
  refine MutK.of (c231 x t (by omega)) (by simp) (by simp) (by simp) (by simp) (by simp) ?_
  simp (maxSteps:=999999) (disch:=first|exact {}|omega|simp) [zS,tT]
  exact (List.take_of_length_le (by simp)).symm
end Go.Vai
set_option maxHeartbeats 4000000
namespace Go.Vai
def dirL (ps:List Pt) (cs:List Cr) (k:Int):List Int:=(atS ps cs k cs.length).map (keyA ps cs k)
def kinL (ps:List Pt) (cs:List Cr) (k:Int):List Int:=(atS ps cs k cs.length).map fun i=>(getK cs i.toNat).k
theorem atS_mem {ps:List Pt} {cs:List Cr} {k x:Int} {n:Nat} (h:x ∈ atS ps cs k n):∃ i:Nat,i < n ∧ x = i ∧ atB cs k i = true:=atI_mem ((atS_perm ps cs k n).mem_iff.1 h)
theorem atI_in {cs:List Cr} {k:Int}:∀ {n i:Nat},i < n → atB cs k i = true → (i:Int) ∈ atI cs k n
 | 0,i,h,_=>by omega
 | n + 1,i,h,hb=>by
  simp only [atI,List.mem_append]
  by_cases e:i = n
  ·subst e; right; simp [hb]
  ·left; exact atI_in (by omega) hb
theorem atS_in {ps:List Pt} {cs:List Cr} {k:Int} {n i:Nat} (h:i < n) (hb:atB cs k i = true):(i:Int) ∈ atS ps cs k n:=(atS_perm ps cs k n).mem_iff.2 (atI_in h hb)
theorem dirL_len (ps:List Pt) (cs:List Cr) (k:Int):(dirL ps cs k).length ≤ cs.length:=by
 unfold dirL
 rw [List.length_map,atS_len]
 exact atI_len _ _ _
theorem dirL_up {ps:List Pt} {cs:List Cr} (hv:vB ps cs = true) (k:Int):(dirL ps cs k).Pairwise (· < ·):=by
 unfold dirL
 rw [List.pairwise_map]
 exact atS_sorted hv k cs.length (Nat.le_refl _)
theorem key_bd {ps:List Pt} {cs:List Cr} (hv:vB ps cs = true) {k:Int} {i:Nat} (hi:i < cs.length) (hb:atB cs k i = true):0 ≤ keyA ps cs k i ∧ keyA ps cs k i ≤ 15:=by
 obtain ⟨hnm,hvp,-,-⟩:=vB_facts hv
 obtain ⟨hdir,-⟩:=vB_more hv
 have hcin:=nmsOk_cin hnm
 have m:=getK_mem (cs:=cs) hi
 obtain ⟨a0,ab,bn⟩:=hcin _ m
 have hd:0 ≤ dirC ps (getK cs i):=by
  unfold dirsOk at hdir
  rw [List.all_eq_true] at hdir
  simpa using hdir _ m
 have A:=(pI_pv (fun p hp=>vP_bound (hvp p hp)) (i:=(getK cs i).a) a0 (by omega)).pk
 have B:=(pI_pv (fun p hp=>vP_bound (hvp p hp)) (i:=(getK cs i).b) (by omega) bn).pk
 unfold dirC at hd
 unfold atB at hb
 rw [Bool.or_eq_true,decide_eq_true_eq,decide_eq_true_eq] at hb
 unfold keyA awayR
 simp only [Int.toNat_natCast]
 refine ⟨?_,(dirR_range _).2⟩
 rcases hb with e | e
 ·rw [show (getK cs i).a + (getK cs i).b - k = (getK cs i).b by omega,← e]; exact hd
 ·rw [show (getK cs i).a + (getK cs i).b - k = (getK cs i).a by omega,← e]; exact dir_back A B hd
theorem dirL_bd {ps:List Pt} {cs:List Cr} (hv:vB ps cs = true) (k:Int):∀ d ∈ dirL ps cs k,0 ≤ d ∧ d ≤ 15:=fun d hd=>by
 unfold dirL at hd
 obtain ⟨x,hx,rfl⟩:=List.mem_map.1 hd
 obtain ⟨i,hi,rfl,hb⟩:=atS_mem hx
 exact key_bd hv hi hb
def sec1 (D:List Int) (i:Nat):Int:=(if i + 1 < D.length then nthI D (i + 1) else nthI D 0 + 16) - nthI D i
def secL (D:List Int) (n:Nat):List Int:=(List.range n).map (sec1 D)
@[simp] theorem secL_len (D:List Int) (n:Nat):(secL D n).length = n:=by simp [secL]
theorem secL_snoc (D:List Int) (n:Nat):secL D (n + 1) = secL D n ++ [sec1 D n]:=by simp [secL,List.range_succ]
theorem up_nth {D:List Int} (h:D.Pairwise (· < ·)) {i j:Nat} (hij:i < j) (hj:j < D.length):nthI D i < nthI D j:=by
 rw [nthI_eq hj,nthI_eq (by omega)]
 exact List.pairwise_iff_getElem.1 h i j (by omega) hj hij
theorem bd_nth {D:List Int} (h:∀ d ∈ D,0 ≤ d ∧ d ≤ 15) {i:Nat} (hi:i < D.length):0 ≤ nthI D i ∧ nthI D i ≤ 15:=by
 rw [nthI_eq hi]; exact h _ (List.getElem_mem hi)
theorem sec1_bd {D:List Int} (h:D.Pairwise (· < ·)) (hb:∀ d ∈ D,0 ≤ d ∧ d ≤ 15) {i:Nat} (hi:i < D.length):1 ≤ sec1 D i ∧ sec1 D i ≤ 16:=by
 have b1:=bd_nth hb hi
 have b0:=bd_nth hb (i:=0) (by omega)
 unfold sec1
 by_cases e:i + 1 < D.length
 ·rw [if_pos e]
  have b2:=bd_nth hb e
  have:=up_nth h (show i < i + 1 by omega) e
  omega
 ·rw [if_neg e]
  by_cases e0:i = 0
  ·subst e0; omega
  ·have:=up_nth h (i:=0) (j:=i) (by omega) hi
   omega
def rotL (D:List Int) (j:Nat):List Int:=D.drop j ++ D.take j
theorem rotL_len (D:List Int) {j:Nat} (h:j ≤ D.length):(rotL D j).length = D.length:=by unfold rotL; simp; omega
theorem rotL_nth {D:List Int} {j t:Nat} (hj:j < D.length) (ht:t < D.length):nthI (rotL D j) t = nthI D (if j + t < D.length then j + t else j + t - D.length):=by
 unfold rotL nthI
 rw [List.getD_eq_getElem?_getD,List.getD_eq_getElem?_getD]
 by_cases e:j + t < D.length
 ·rw [if_pos e,List.getElem?_append_left (by simp; omega),List.getElem?_drop]
 ·rw [if_neg e,List.getElem?_append_right (by simp; omega),List.getElem?_take_of_lt (by simp; omega)]
  congr 2
  simp; omega
theorem rotL_next {D:List Int} {j:Nat} (h:j < D.length):(rotL D j).drop 1 ++ [nthI (rotL D j) 0] = rotL D (j + 1):=by
 have e1:rotL D j = D[j] :: (D.drop (j + 1) ++ D.take j):=by unfold rotL; rw [List.drop_eq_getElem_cons h]; rfl
 rw [e1]
 show (D.drop (j + 1) ++ D.take j) ++ [D[j]] = _
 unfold rotL
 rw [List.take_add_one,List.getElem?_eq_getElem h]
 simp
def difL (L:List Int) (n:Nat):List Int:=(List.range n).map fun i=>(nthI L (i + 1) - nthI L i) % 16
@[simp] theorem difL_len (L:List Int) (n:Nat):(difL L n).length = n:=by simp [difL]
theorem difL_snoc (L:List Int) (n:Nat):difL L (n + 1) = difL L n ++ [(nthI L (n + 1) - nthI L n) % 16]:=by simp [difL,List.range_succ]
theorem nthI_map {f:Nat → Int} {n i:Nat} (h:i < n):nthI ((List.range n).map f) i = f i:=by
 unfold nthI; simp [h]
theorem sec_dif {D:List Int} (h:D.Pairwise (· < ·)) (hb:∀ d ∈ D,0 ≤ d ∧ d ≤ 15) {j:Nat} (hj:j < D.length):(rotL (secL D D.length) j).take (D.length - 1) = difL (rotL D j) (D.length - 1):=by
 have hsl:(secL D D.length).length = D.length:=secL_len _ _
 refine ext_nthI (by simp [rotL_len _ (show j ≤ (secL D D.length).length by omega)]) fun t ht=>?_
 simp [rotL_len _ (show j ≤ (secL D D.length).length by omega)] at ht
 have e1:nthI ((rotL (secL D D.length) j).take (D.length - 1)) t = nthI (rotL (secL D D.length) j) t:=by
  unfold nthI
  rw [List.getD_eq_getElem?_getD,List.getD_eq_getElem?_getD,List.getElem?_take_of_lt ht]
 rw [e1,rotL_nth (by omega) (by omega),hsl]
 have e2:nthI (difL (rotL D j) (D.length - 1)) t = (nthI (rotL D j) (t + 1) - nthI (rotL D j) t) % 16:=nthI_map (f:=fun i=>(nthI (rotL D j) (i + 1) - nthI (rotL D j) i) % 16) ht
 rw [e2,rotL_nth hj (by omega),rotL_nth hj (by omega)]
 have e3:∀ i,i < D.length → nthI (secL D D.length) i = sec1 D i:=fun i hi=>nthI_map hi
 by_cases c1:j + (t + 1) < D.length
 ·rw [if_pos c1,if_pos (by omega),e3 _ (by omega)]
  unfold sec1
  rw [if_pos (by omega),show j + t + 1 = j + (t + 1) by omega]
  have u:=up_nth h (i:=j + t) (j:=j + (t + 1)) (by omega) c1
  have b1:=bd_nth hb c1
  have b2:=bd_nth hb (i:=j + t) (by omega)
  omega
 ·rw [if_neg c1]
  by_cases c2:j + t < D.length
  ·rw [if_pos c2,e3 _ c2]
   unfold sec1
   rw [if_neg (by omega),show j + (t + 1) - D.length = 0 by omega]
   have u:=up_nth h (i:=0) (j:=j + t) (by omega) c2
   have b1:=bd_nth hb (i:=0) (by omega)
   have b2:=bd_nth hb c2
   omega
  ·rw [if_neg c2,e3 _ (by omega)]
   unfold sec1
   rw [if_pos (by omega),show j + t - D.length + 1 = j + (t + 1) - D.length by omega]
   have u:=up_nth h (i:=j + t - D.length) (j:=j + (t + 1) - D.length) (by omega) (by omega)
   have b1:=bd_nth hb (i:=j + t - D.length) (by omega)
   have b2:=bd_nth hb (i:=j + (t + 1) - D.length) (by omega)
   omega
theorem atI_ne {ps:List Pt} {cs:List Cr} (hv:vB ps cs = true) {k:Nat} (hk:k < ps.length):atI cs k cs.length ≠ []:=fun h0=>by
 obtain ⟨ho,hnm,-,-⟩:=vB_okR hv
 have hcin:=nmsOk_cin hnm
 have hno:∀ i,i < cs.length → atB cs k i = false:=fun i hi=>by
  refine Bool.eq_false_iff.2 fun e=>?_
  have:=atI_in hi e
  rw [h0] at this; simp at this
 have hno2:∀ c ∈ cs,¬ c.a = k ∧ ¬ c.b = k:=fun c hc=>by
  obtain ⟨i,hi,rfl⟩:=List.getElem_of_mem hc
  have:=hno i hi
  unfold atB at this
  rw [(getK_get hi).2] at this
  simpa using this
 have hcon:Con ps.length cs:=by
  have h2:=hv
  unfold vB at h2
  simp only [Bool.and_eq_true] at h2
  have:=h2.2.2.2.1
  unfold conB at this
  simpa using this
 by_cases hk0:k = 0
 ·subst hk0
  have hd:=okR_deg hnm (by omega) ho
  obtain ⟨-,-,h3⟩:=degB_iff.1 hd
  obtain ⟨u,hu⟩:=List.exists_mem_of_length_pos (l:=nbL cs 0) (by omega)
  obtain ⟨c,hc,-,h4⟩:=(nbL_mem hcin).1 hu
  obtain ⟨a0,ab,bn⟩:=hcin c hc
  have:=hno2 c hc
  omega
 ·have:=hcon (fun v=>decide (v ≠ k)) ⟨by simpa using fun e=>hk0 e.symm,fun c hc=>by
   have h5:=hno2 c hc
   obtain ⟨a0,ab,bn⟩:=hcin c hc
   have e1:c.a.toNat ≠ k:=by omega
   have e2:c.b.toNat ≠ k:=by omega
   simp [e1,e2]⟩ k hk
  simp at this
end Go.Vai
set_option maxHeartbeats 8000000
namespace Go.Vai
theorem ring_all {n cnt:Nat} {nb:Nat → List Nat} (G:Wk.Gr n cnt nb) (hn:0 < n) {m:Nat} (h:Wk.D nb m) (e:m = cnt):∀ v,v < n → v ∉ Wk.ring nb m → (nb v).length = 0:=by
 have hs:=Wk.sumTo_mem (n:=n) (Wk.ring_nodup G h) fun v hv=>by
  obtain ⟨k,hk,rfl⟩:=List.mem_map.1 hv
  exact Wk.w_bd G hn h k (by have:=List.mem_range.1 hk; omega)
 have hl:(Wk.ring nb m).length = m:=by simp [Wk.ring]
 rw [hl] at hs
 have hle:∀ v,(if v ∈ Wk.ring nb m then 2 else 0) ≤ (nb v).length:=fun v=>by
  split
  ·rename_i hv
   obtain ⟨k,hk,rfl⟩:=List.mem_map.1 hv
   rw [(h k (List.mem_range.1 hk)).1]; exact Nat.le_refl _
  ·omega
 intro v hv hv2
 refine Classical.byContradiction fun hne=>?_
 have:=Wk.sumTo_lt hle (u:=v) (by rw [if_neg hv2]; omega) n hv
 rw [hs,G.sum] at this
 omega
def isBr (cs:List Cr) (v:Int):Bool:=cs.any fun c=>decide (c.k = 1) && (decide (c.a = v) || decide (c.b = v))
theorem isBr_nb {n:Nat} {cs:List Cr} (hc:∀ c ∈ cs,Cin n c) (v:Nat):isBr cs v = true ↔ nbL cs v ≠ []:=by
 unfold isBr
 rw [List.any_eq_true]
 constructor
 ·rintro ⟨c,hcm,hcc⟩ he
  simp only [Bool.and_eq_true,Bool.or_eq_true,decide_eq_true_eq] at hcc
  obtain ⟨a0,ab,bn⟩:=hc c hcm
  have hno:∀ u,u ∉ nbL cs v:=fun u hu=>by rw [he] at hu; simp at hu
  rcases hcc.2 with e | e
  ·exact hno c.b.toNat ((nbL_mem hc).2 ⟨c,hcm,hcc.1,.inl ⟨by omega,rfl⟩⟩)
  ·exact hno c.a.toNat ((nbL_mem hc).2 ⟨c,hcm,hcc.1,.inr ⟨by omega,rfl⟩⟩)
 ·intro hne
  obtain ⟨u,hu⟩:=List.exists_mem_of_ne_nil _ hne
  obtain ⟨c,hcm,hk,hh⟩:=(nbL_mem hc).1 hu
  obtain ⟨a0,ab,bn⟩:=hc c hcm
  refine ⟨c,hcm, ?_⟩
  simp only [Bool.and_eq_true,Bool.or_eq_true,decide_eq_true_eq]
  refine ⟨hk, ?_⟩
  rcases hh with ⟨e,-⟩ | ⟨e,-⟩
  ·exact .inl (by omega)
  ·exact .inr (by omega)
theorem isBr_rnd {ps:List Pt} {cs:List Cr} (h:nmsOk ps cs = true) (hn:0 < ps.length) (ho:okR cs = true) (v:Nat) (hv:v < ps.length):isBr cs v = (rndI cs).any fun x=>decide (x = (v:Int)):=by
 have hcin:=nmsOk_cin h
 have hB:=deg_bck h (okR_deg h hn ho)
 have he:brdM cs = bcnt cs:=by
  unfold okR at ho
  rw [Bool.and_eq_true,decide_eq_true_eq,decide_eq_true_eq] at ho
  exact ho.2
 rw [Bool.eq_iff_iff,isBr_nb hcin,List.any_eq_true]
 unfold rndI rngI
 constructor
 ·intro hne
  by_cases hr:v ∈ Wk.ring (nbL cs) (brdM cs)
  ·obtain ⟨k,hk,e⟩:=List.mem_map.1 hr
   exact ⟨(v:Int),List.mem_map.2 ⟨k,hk,by rw [e]⟩,by simp⟩
  ·have:=ring_all (nb_gr h) hn hB.d he v hv hr
   exact absurd (List.eq_nil_of_length_eq_zero this) hne
 ·rintro ⟨x,hx,e⟩
  obtain ⟨k,hk,rfl⟩:=List.mem_map.1 hx
  simp only [decide_eq_true_eq] at e
  have e':Wk.w (nbL cs) k = v:=by omega
  intro h0
  have:=(hB.d k (List.mem_range.1 hk)).1
  rw [e',h0] at this
  simp at this
theorem any_backL (l:List Int) (p:Int → Bool):(backL l).any p = l.any p:=by
 unfold backL
 rw [List.any_append,List.any_reverse,← List.any_append,List.take_append_drop]
theorem isBr_arr {ps:List Pt} {cs:List Cr} (hvB:vB ps cs = true) (v:Nat) (hv:v < ps.length):isBr cs v = (arrS ps cs).any fun x=>decide (x = (v:Int)):=by
 obtain ⟨hnm,-,-,-⟩:=vB_facts hvB
 have ho:okR cs = true:=by
  have h2:=hvB
  unfold vB at h2
  simp only [Bool.and_eq_true] at h2
  refine Classical.byContradiction fun hno=>?_
  have e:papO ps cs = none:=by unfold papO; rw [if_neg hno]
  rw [e] at h2
  simp at h2
 rw [isBr_rnd hnm (by omega) ho v hv]
 unfold arrS
 rw [if_pos hvB]
 unfold arrI
 split
 ·rfl
 ·rw [any_backL]
theorem c200 (c:Cr) (k:Int):PC E 200 [.agg (encK c),.i (.ptr [.int .i64 k])] [.i (.bool (decide (c.k = 1) && (decide (c.a = k) || decide (c.b = k))))]:=by
 refine zP hE Proofs.Tryz.func200 Proofs.Tryz.ntmps200 rfl rfl ?_
 simp (maxSteps:=999999) (disch:=first|exact {}|omega|simp) [zS,encK]
 (first | refine Gd.dec (fun h1=>?_) (fun h1=>?_) | refine Gd.intro (fun h1=>?_) (fun h1=>?_)) <;> simp (maxSteps:=999999) (disch:=first|exact {}|omega|simp) [zS,h1]
 (first | refine Gd.dec (fun h2=>?_) (fun h2=>?_) | refine Gd.intro (fun h2=>?_) (fun h2=>?_)) <;> simp (maxSteps:=999999) (disch:=first|exact {}|omega|simp) [zS,h2]
theorem c118 (ps:List Pt) (cs:List Cr) (k:Int) (hc:(cs.length:Int) ≤ 1048576):PC E 118 [.agg (encPa ps cs),.i (.int .i64 k)] [.i (.bool (isBr cs k))]:=by
 have hcf:=c186 cs 200 [.ptr [.int .i64 k]] (fun c=>decide (c.k = 1) && (decide (c.a = k) || decide (c.b = k))) (fun c _=>c200 c k) hc
 rw [show (cs.any fun c=>decide (c.k = 1) && (decide (c.a = k) || decide (c.b = k))) = isBr cs k from rfl] at hcf
 refine zP hE Proofs.Tryz.func118 Proofs.Tryz.ntmps118 rfl rfl ?_
 simp (maxSteps:=999999) (disch:=first|exact {}|omega|simp) [zS,encPa]
 refine zC (hcf) ?_
 simp (maxSteps:=999999) (disch:=first|exact {}|omega|simp) [zS]
end Go.Vai
set_option maxHeartbeats 4000000
namespace Go.Vai
def smN (L:List Int):Nat → Int
 | 0=>0
 | k + 1=>smN L k + nthI L k
theorem smN_bd {L:List Int} (hb:∀ x ∈ L,1 ≤ x ∧ x ≤ 16):∀ k,k ≤ L.length → 0 ≤ smN L k ∧ smN L k ≤ 16 * k
 | 0,_=>by simp [smN]
 | k + 1,h=>by
  have ih:=smN_bd hb k (by omega)
  have:=hb _ (List.getElem_mem (show k < L.length by omega))
  rw [← nthI_eq (by omega)] at this
  simp only [smN]
  omega
def okS (L:List Int):Bool:=decide (L.length ≤ 16) && decide (smN L L.length = 16)
def alN (L:List Int):Nat → Int
 | 0=>0
 | k + 1=>if k % 2 = 0 then alN L k + nthI L k else alN L k - nthI L k
theorem alN_bd {L:List Int} (hb:∀ x ∈ L,1 ≤ x ∧ x ≤ 16):∀ k,k ≤ L.length → -(16 * k) ≤ alN L k ∧ alN L k ≤ 16 * k
 | 0,_=>by simp [alN]
 | k + 1,h=>by
  have ih:=alN_bd hb k (by omega)
  have:=hb _ (List.getElem_mem (show k < L.length by omega))
  rw [← nthI_eq (by omega)] at this
  simp only [alN]
  split <;> omega
theorem alN_two (L:List Int) (k:Nat) (h:k % 2 = 0):alN L (k + 2) = alN L k + (nthI L k - nthI L (k + 1)):=by
 show (if (k + 1) % 2 = 0 then alN L (k + 1) + nthI L (k + 1) else alN L (k + 1) - nthI L (k + 1)) = _
 rw [if_neg (by omega)]
 show (if k % 2 = 0 then alN L k + nthI L k else alN L k - nthI L k) - nthI L (k + 1) = _
 rw [if_pos h]; omega
def kawB (L:List Int):Bool:=okS L && decide (L.length % 2 = 0) && decide (alN L L.length = 0)
def cnt (L:List Int) (v:Int):Nat → Int
 | 0=>0
 | k + 1=>if nthI L k = v then cnt L v k + 1 else cnt L v k
theorem cnt_bd (L:List Int) (v:Int):∀ k,0 ≤ cnt L v k ∧ cnt L v k ≤ k
 | 0=>by simp [cnt]
 | k + 1=>by
  have ih:=cnt_bd L v k
  simp only [cnt]
  split <;> omega
def tal (L:List Int):Nat → Int
 | 0=>0
 | k + 1=>if nthI L k = 2 then tal L k + 1 else tal L k - 1
theorem tal_bd (L:List Int):∀ k:Nat,-(k:Int) ≤ tal L k ∧ tal L k ≤ k
 | 0=>by simp [tal]
 | k + 1=>by
  have ih:=tal_bd L k
  simp only [tal]
  split <;> omega
theorem tal_cnt {L:List Int} (h:∀ x ∈ L,x = 2 ∨ x = 3):∀ k,k ≤ L.length → tal L k = cnt L 2 k - cnt L 3 k
 | 0,_=>by simp [tal,cnt]
 | k + 1,hk=>by
  have ih:=tal_cnt h k (by omega)
  have:=h _ (List.getElem_mem (show k < L.length by omega))
  rw [← nthI_eq (by omega)] at this
  simp only [tal,cnt]
  rcases this with e | e
  ·rw [if_pos e,if_pos e,if_neg (by omega)]; omega
  ·rw [if_neg (by omega),if_neg (by omega),if_pos e]; omega
def excN (L:List Int):Int:=if cnt L 2 L.length - cnt L 3 L.length < 0 then -(cnt L 2 L.length - cnt L 3 L.length) else cnt L 2 L.length - cnt L 3 L.length
theorem excN_tal {L:List Int} (h:∀ x ∈ L,x = 2 ∨ x = 3):excN L = if tal L L.length < 0 then -tal L L.length else tal L L.length:=by
 unfold excN
 rw [tal_cnt h L.length (Nat.le_refl _)]
theorem kin_two {ps:List Pt} {cs:List Cr} (hv:vB ps cs = true) {k:Int} (hb:isBr cs k = false) (ho:(kinL ps cs k).any (fun x=>decide (x = 4)) = false):∀ x ∈ kinL ps cs k,x = 2 ∨ x = 3:=fun x hx=>by
 obtain ⟨hnm,-,-,-⟩:=vB_facts hv
 rw [List.any_eq_false] at ho
 have h4:=ho x hx
 unfold kinL at hx
 obtain ⟨y,hy,rfl⟩:=List.mem_map.1 hx
 obtain ⟨i,hi,rfl,hat⟩:=atS_mem hy
 simp only [Int.toNat_natCast] at h4 ⊢
 have hk:=numB_k hnm hi
 unfold isBr at hb
 rw [List.any_eq_false] at hb
 have h1:=hb _ (getK_mem hi)
 unfold atB at hat
 simp only [Bool.or_eq_true,decide_eq_true_eq] at hat
 simp only [Bool.and_eq_true,Bool.or_eq_true,decide_eq_true_eq] at h1 h4
 have:¬ (getK cs i).k = 1:=fun e=>h1 ⟨e,hat⟩
 omega
theorem kinL_len (ps:List Pt) (cs:List Cr) (k:Int):(kinL ps cs k).length = (dirL ps cs k).length:=by simp [kinL,dirL]
def eqN (L:List Int) (f:Nat) (c:Nat):Nat → Nat
 | 0=>c
 | m + 1=>if nthI L ((f + c) % L.length) = nthI L f then eqN L f (c + 1) m else c
theorem eqN_bd (L:List Int) (f:Nat):∀ m c,c ≤ eqN L f c m ∧ eqN L f c m ≤ c + m
 | 0,c=>by simp [eqN]
 | m + 1,c=>by
  have:=eqN_bd L f m (c + 1)
  simp only [eqN]
  split <;> omega
def runS (L:List Int) (f:Nat):Nat :=
 if nthI L ((f + L.length - 1) % L.length) ≤ nthI L f then 0 else
 if nthI L f < nthI L ((f + eqN L f 1 (L.length - 1)) % L.length) then eqN L f 1 (L.length - 1) else 0
theorem runS_le (L:List Int) (f:Nat):runS L f ≤ L.length:=by
 unfold runS
 have:=eqN_bd L f (L.length - 1) 1
 by_cases h:L.length = 0
 ·rw [if_pos]
  ·omega
  ·have:∀ i,nthI L i = 0:=fun i=>by
    obtain rfl:=List.eq_nil_of_length_eq_zero h
    rfl
   rw [this,this]; omega
 ·split
  ·omega
  ·split <;> omega
structure Rn where
 f:Int
 c:Int
 s:Int
def encRn (r:Rn):List IV:=[.int .i64 r.f,.int .i64 r.c,.int .i64 r.s]
def runN (L:List Int):Nat → List Rn
 | 0=>[]
 | k + 1=>runN L k ++ if 0 < runS L k then [⟨k,runS L k,nthI L k⟩] else []
theorem runN_len (L:List Int):∀ k,(runN L k).length ≤ k
 | 0=>by simp [runN]
 | k + 1=>by
  have:=runN_len L k
  simp only [runN]; split <;> simp <;> omega
theorem runN_mem {L:List Int} {r:Rn}:∀ {k:Nat},k ≤ L.length → r ∈ runN L k → ∃ f c:Nat,f < k ∧ r.f = f ∧ r.c = c ∧ 0 < c ∧ c < L.length
 | 0,_,h=>by simp [runN] at h
 | k + 1,hk,h=>by
  simp only [runN,List.mem_append] at h
  rcases h with h | h
  ·obtain ⟨f,c,h1,h2⟩:=runN_mem (by omega) h
   exact ⟨f,c,by omega,h2⟩
  ·split at h
   ·rename_i hc
    simp at h
    subst h
    refine ⟨k,runS L k,by omega,rfl,rfl,hc, ?_⟩
    have hle:=runS_le L k
    refine Nat.lt_of_le_of_ne hle fun e=>?_
    unfold runS at e hc
    by_cases h1:nthI L ((k + L.length - 1) % L.length) ≤ nthI L k
    ·rw [if_pos h1] at hc; omega
    rw [if_neg h1] at e hc
    by_cases h2:nthI L k < nthI L ((k + eqN L k 1 (L.length - 1)) % L.length)
    ·rw [if_pos h2] at e
     rw [e,Nat.add_mod_right,Nat.mod_eq_of_lt (show k < L.length by omega)] at h2
     omega
    ·rw [if_neg h2] at hc; omega
   ·simp at h
def runK (K:List Int) (r:Rn):List Int:=(rotL K r.f.toNat).take (r.c.toNat + 1)
def balB (K:List Int) (r:Rn):Bool:=decide (excN (runK K r) = (r.c + 1) % 2)
theorem runK_mem {K:List Int} {r:Rn} {x:Int} (h:x ∈ runK K r):x ∈ K:=by
 have:=List.mem_of_mem_take h
 unfold rotL at this
 rcases List.mem_append.1 this with h | h
 ·exact List.mem_of_mem_drop h
 ·exact List.mem_of_mem_take h
def badB (K:List Int) (r:Rn):Bool:=(decide (r.c % 2 = 1) && decide (tal (runK K r) (runK K r).length ≠ 0)) || (decide (r.c % 2 = 0) && (decide (tal (runK K r) (runK K r).length ≠ 1) && decide (tal (runK K r) (runK K r).length ≠ -1)))
theorem bal_bad {K:List Int} (h:∀ x ∈ K,x = 2 ∨ x = 3) (r:Rn) (hc:0 ≤ r.c):badB K r = !balB K r:=by
 have e:=excN_tal (L:=runK K r) fun x hx=>h x (runK_mem hx)
 unfold balB badB
 rw [e]
 generalize tal (runK K r) (runK K r).length = t
 rw [Bool.eq_iff_iff]
 simp only [Bool.or_eq_true,Bool.and_eq_true,decide_eq_true_eq,Bool.not_eq_true',decide_eq_false_iff_not,ne_eq]
 split <;> omega
end Go.Vai
namespace Go.Vai
def Adj (cs:List Cr) (x y:Int):Prop:=∃ u v:Nat,x = u ∧ y = v ∧ v ∈ nbL cs u
theorem Adj.symm {ps:List Pt} {cs:List Cr} (h:nmsOk ps cs = true) {x y:Int} (a:Adj cs x y):Adj cs y x:=by
 obtain ⟨u,v,rfl,rfl,hv⟩:=a
 exact ⟨v,u,rfl,rfl,(nb_gr h).sym _ _ hv⟩
theorem rnd_nth (cs:List Cr) {t:Nat} (h:t < brdM cs):nthI (rndI cs) t = (Wk.w (nbL cs) t:Int):=by
 unfold nthI rndI
 rw [List.getD_eq_getElem?_getD,rngI_get cs h]; rfl
theorem back_nth {l:List Int} {t:Nat} (ht:t < l.length):nthI (backL l) t = if t = 0 then nthI l 0 else nthI l (l.length - t):=by
 cases l with
 | nil=>simp at ht
 | cons x l =>
  rw [backL_at]
  cases t with
  | zero=>rfl
  | succ t =>
   simp only [List.length_cons] at ht
   rw [if_neg (by omega)]
   show nthI l.reverse t = _
   rw [nthI_rev (by omega),show (x :: l).length - (t + 1) = (l.length - 1 - t) + 1 by simp; omega]
   rfl
theorem arr_adj {ps:List Pt} {cs:List Cr} (hv:vB ps cs = true) {t:Nat} (ht:t < (arrI ps cs).length):Adj cs (nthI (arrI ps cs) t) (nthI (arrI ps cs) ((t + 1) % (arrI ps cs).length)):=by
 obtain ⟨ho,hnm,-,-⟩:=vB_okR hv
 have hn:0 < ps.length:=by
  obtain ⟨r1,-,r3⟩:=rnd_in hnm ho
  have:=r1 _ (List.getElem_mem r3)
  omega
 have hB:=deg_bck hnm (okR_deg hnm hn ho)
 have G:=nb_gr hnm
 have hl:(rndI cs).length = brdM cs:=rngI_len _ _
 have fwd:∀ t,t < brdM cs → Adj cs (nthI (rndI cs) t) (nthI (rndI cs) ((t + 1) % brdM cs)):=fun t ht=>by
  have hw:=Wk.w_nb G hB.d t ht
  refine ⟨Wk.w (nbL cs) t,Wk.w (nbL cs) (t + 1),rnd_nth cs ht, ?_,hw⟩
  by_cases e:t + 1 = brdM cs
  ·rw [e,Nat.mod_self,rnd_nth cs hB.m0,hB.z]; rfl
  ·rw [Nat.mod_eq_of_lt (by omega),rnd_nth cs (by omega)]
 unfold arrI at ht ⊢
 split at ht
 ·rename_i hc
  simp only [if_pos hc]
  rw [hl] at ht ⊢
  exact fwd t ht
 ·rename_i hc
  simp only [if_neg hc]
  rw [backL_len,hl] at ht
  have hm0:=hB.m0
  rw [backL_len,hl,back_nth (by omega),back_nth (by rw [hl]; exact Nat.mod_lt _ hm0),hl]
  refine Adj.symm hnm ?_
  by_cases e:t + 1 = brdM cs
  ·rw [e,Nat.mod_self,if_pos rfl]
   have:=fwd 0 hm0
   by_cases e0:t = 0
   ·rw [if_pos e0]
    have e1:brdM cs = 1:=by omega
    rw [e1] at this
    exact this
   ·rw [if_neg e0,show brdM cs - t = 1 by omega]
    rw [Nat.mod_eq_of_lt (by omega)] at this
    exact this
  ·rw [Nat.mod_eq_of_lt (by omega),if_neg (by omega)]
   have:=fwd (brdM cs - (t + 1)) (by omega)
   by_cases e0:t = 0
   ·subst e0
    rw [if_pos rfl]
    rw [show brdM cs - (0 + 1) + 1 = brdM cs by omega,Nat.mod_self] at this
    exact this
   ·rw [if_neg e0]
    rw [show brdM cs - (t + 1) + 1 = brdM cs - t by omega,Nat.mod_eq_of_lt (by omega)] at this
    exact this
theorem arr_nodup {ps:List Pt} {cs:List Cr} (hv:vB ps cs = true):(arrI ps cs).Nodup:=by
 obtain ⟨ho,hnm,-,-⟩:=vB_okR hv
 have hn:0 < ps.length:=by
  obtain ⟨r1,-,r3⟩:=rnd_in hnm ho
  have:=r1 _ (List.getElem_mem r3)
  omega
 have hB:=deg_bck hnm (okR_deg hnm hn ho)
 have h1:(rndI cs).Nodup:=by
  have:=Wk.ring_nodup (nb_gr hnm) hB.d
  have e:rndI cs = (Wk.ring (nbL cs) (brdM cs)).map fun v:Nat=>(v:Int):=by
   unfold rndI rngI Wk.ring
   rw [List.map_map]; rfl
  rw [e,List.nodup_iff_pairwise_ne,List.pairwise_map]
  exact (List.nodup_iff_pairwise_ne.1 this).imp fun h e=>h (by omega)
 unfold arrI
 split
 ·exact h1
 ·have hp:(backL (rndI cs)).Perm (rndI cs):=by
   unfold backL
   have:=((List.drop 1 (rndI cs)).reverse_perm).append_left (List.take 1 (rndI cs))
   rwa [List.take_append_drop] at this
  exact hp.nodup_iff.2 h1
theorem nodup_nth {l:List Int} (h:l.Nodup) {i j:Nat} (hi:i < l.length) (hj:j < l.length) (e:nthI l i = nthI l j):i = j:=by
 rw [nthI_eq hi,nthI_eq hj] at e
 rcases Nat.lt_trichotomy i j with h1 | h1 | h1
 ·exact absurd e (List.pairwise_iff_getElem.1 (List.nodup_iff_pairwise_ne.1 h) i j hi hj h1)
 ·exact h1
 ·exact absurd e.symm (List.pairwise_iff_getElem.1 (List.nodup_iff_pairwise_ne.1 h) j i hj hi h1)
structure Brd (ps:List Pt) (cs:List Cr) (k t j:Nat):Prop where
 t1:t < (arrI ps cs).length
 at_:nthI (arrI ps cs) t = k
 one:∀ i,i < (arrI ps cs).length → nthI (arrI ps cs) i = k → i = t
 n0:0 ≤ nthI (arrI ps cs) ((t + 1) % (arrI ps cs).length)
 n1:nthI (arrI ps cs) ((t + 1) % (arrI ps cs).length) < ps.length
 j1:j < (dirL ps cs k).length
 dir:nthI (dirL ps cs k) j = dirR (pminus (nth ps (nthI (arrI ps cs) ((t + 1) % (arrI ps cs).length)).toNat) (nth ps k))
theorem brd_of {ps:List Pt} {cs:List Cr} (hv:vB ps cs = true) {k:Nat} (hk:k < ps.length) (hb:isBr cs k = true):∃ t j,Brd ps cs k t j:=by
 obtain ⟨ho,hnm,-,-⟩:=vB_okR hv
 have hcin:=nmsOk_cin hnm
 have ha:=isBr_arr hv k hk
 rw [hb] at ha
 have hS:arrS ps cs = arrI ps cs:=by unfold arrS; rw [if_pos hv]
 rw [hS] at ha
 obtain ⟨x,hx,hxe⟩:=List.any_eq_true.1 ha.symm
 obtain ⟨t,ht,rfl⟩:=List.getElem_of_mem hx
 rw [decide_eq_true_eq,← nthI_eq ht] at hxe
 obtain ⟨u,v,e1,e2,e3⟩:=arr_adj hv ht
 have hku:u = k:=by omega
 subst hku
 obtain ⟨i,hi,hB,hs⟩:=nb_isB hcin e3
 obtain ⟨a0,ab,bn⟩:=hcin _ (getK_mem hi)
 obtain ⟨-,hB2⟩:=isB_iff.1 hB
 have hat:atB cs u i = true:=by unfold atB; simpa using hB2
 have hmem:keyA ps cs u i ∈ dirL ps cs u:=List.mem_map.2 ⟨i,atS_in hi hat,rfl⟩
 obtain ⟨j,hj,hje⟩:=List.getElem_of_mem hmem
 refine ⟨t,j,ht,hxe,fun q hq he=>nodup_nth (arr_nodup hv) hq ht (by omega),by omega,by omega,hj, ?_⟩
 rw [nthI_eq hj,hje,e2]
 unfold keyA awayR pI
 simp only [Int.toNat_natCast]
 rw [hs]; simp
theorem dir_one {ps:List Pt} {cs:List Cr} (hv:vB ps cs = true) (k:Int) {i j:Nat} (hi:i < (dirL ps cs k).length) (hj:j < (dirL ps cs k).length) (e:nthI (dirL ps cs k) i = nthI (dirL ps cs k) j):i = j:=by
 have h:=dirL_up hv k
 rcases Nat.lt_trichotomy i j with h1 | h1 | h1
 ·have:=up_nth h h1 hj; omega
 ·exact h1
 ·have:=up_nth h h1 hi; omega
end Go.Vai
namespace Go.Vai
theorem smN_sec {D:List Int}:∀ {k:Nat},k < D.length → smN (secL D D.length) k = nthI D k - nthI D 0
 | 0,_=>by simp [smN]
 | k + 1,h=>by
  have ih:=smN_sec (D:=D) (k:=k) (by omega)
  have e:nthI (secL D D.length) k = sec1 D k:=nthI_map (by omega)
  show smN (secL D D.length) k + nthI (secL D D.length) k = _
  rw [ih,e]
  unfold sec1
  rw [if_pos h]; omega
theorem up_ge {D:List Int} (h:D.Pairwise (· < ·)) (hb:∀ d ∈ D,0 ≤ d ∧ d ≤ 15):∀ {i:Nat},i < D.length → (i:Int) ≤ nthI D i
 | 0,hi=>(bd_nth hb hi).1
 | i + 1,hi=>by
  have ih:=up_ge h hb (i:=i) (by omega)
  have:=up_nth h (show i < i + 1 by omega) hi
  omega
theorem okS_sec {D:List Int} (h:D.Pairwise (· < ·)) (hb:∀ d ∈ D,0 ≤ d ∧ d ≤ 15):okS (secL D D.length) = decide (0 < D.length):=by
 by_cases h0:0 < D.length
 ·have hl:D.length ≤ 16:=by
   have:=up_ge h hb (i:=D.length - 1) (by omega)
   have:=bd_nth hb (i:=D.length - 1) (by omega)
   omega
  obtain ⟨k,hk⟩:∃ k,D.length = k + 1:=⟨D.length - 1,by omega⟩
  have e1:=smN_sec (D:=D) (k:=k) (by omega)
  have e2:nthI (secL D D.length) k = sec1 D k:=nthI_map (by omega)
  have e3:smN (secL D D.length) D.length = 16:=by
   have:smN (secL D D.length) (k + 1) = smN (secL D D.length) k + nthI (secL D D.length) k:=rfl
   rw [← hk] at this
   rw [this,e1,e2]
   unfold sec1
   rw [if_neg (by omega)]; omega
  unfold okS
  rw [secL_len,e3]
  simp [hl,h0]
 ·have e:D = []:=List.eq_nil_of_length_eq_zero (by omega)
  subst e
  rfl
def innI (f c n:Nat):List Int:=(List.range c).map fun i:Nat=>(((f + i) % n:Nat):Int)
@[simp] theorem innI_len (f c n:Nat):(innI f c n).length = c:=by simp [innI]
theorem innI_snoc (f c n:Nat):innI f (c + 1) n = innI f c n ++ [(((f + c) % n:Nat):Int)]:=by simp [innI,List.range_succ]
theorem inn_run {K:List Int} {f c:Nat} (hf:f < K.length) (hc:c + 1 ≤ K.length):(innI f (c + 1) K.length).map (fun i=>nthI K i.toNat) = (rotL K f).take (c + 1):=by
 have hr:=rotL_len K (j:=f) (by omega)
 refine ext_nthI (by simp; omega) fun t ht=>?_
 simp at ht
 have e1:nthI ((innI f (c + 1) K.length).map (fun i=>nthI K i.toNat)) t = nthI K ((f + t) % K.length):=by
  have e0:((innI f (c + 1) K.length).map (fun i=>nthI K i.toNat))[t]? = some (nthI K ((f + t) % K.length)):=by
   unfold innI
   rw [List.getElem?_map,List.getElem?_map,List.getElem?_range ht]
   show some (nthI K (Int.toNat (((f + t) % K.length:Nat):Int))) = _
   rw [Int.toNat_natCast]
  rw [nthI,List.getD_eq_getElem?_getD,e0]; rfl
 have e2:nthI ((rotL K f).take (c + 1)) t = nthI (rotL K f) t:=by
  unfold nthI
  rw [List.getD_eq_getElem?_getD,List.getD_eq_getElem?_getD,List.getElem?_take_of_lt ht]
 rw [e1,e2,rotL_nth hf (by omega)]
 congr 1
 split
 ·rw [Nat.mod_eq_of_lt (by assumption)]
 ·rw [Nat.mod_eq_sub_mod (by omega),Nat.mod_eq_of_lt (by omega)]
end Go.Vai
