/- Texts of this claim: Zq34, Zq35, Zq25, Zw33, Zw34, Zw35, Zw36. -/
import Derived.Test.YtiipeibaiphmpaaGreatDoorTb74
import Derived.Test.YtiipeibaiphmpaaGreatDoorTb73
import Derived.Test.YtiipeibaiphmpaaGreatDoorTv11c
import Derived.Test.YtiipeibaiphmpaaGreatDoorTb75
set_option linter.unusedVariables false
set_option linter.unusedSimpArgs false
set_option maxHeartbeats 4000000
namespace Go.Vai
structure TO {α:Type} (c:α → α → Int) (P:α → Prop):Prop where
 self:∀ x,P x → c x x = 0
 anti:∀ x y,P x → P y → c y x = -c x y
 trans:∀ x y z,P x → P y → P z → c x y < 0 → c y z < 0 → c x z < 0
 eq:∀ x y,P x → P y → c x y = 0 → x = y
theorem TO.ntrans {α:Type} {c:α → α → Int} {P:α → Prop} (h:TO c P) {x y z:α} (hx:P x) (hy:P y) (hz:P z) (h1:¬ c x y < 0) (h2:¬ c y z < 0):¬ c x z < 0:=by
 intro h3
 have a1:=h.anti x y hx hy
 by_cases e:c x y = 0
 ·rw [h.eq x y hx hy e] at h3; exact h2 h3
 ·exact h2 (h.trans y x z hy hx hz (by omega) h3)
def SS {α:Type} (c:α → α → Int) (l:List α):Prop:=l.Pairwise fun a b=>c a b < 0
def WS {α:Type} (c:α → α → Int) (l:List α):Prop:=l.Pairwise fun a b=>¬ c b a < 0
def putO {α:Type} [DecidableEq α] (c:α → α → Int) (x:α):List α → List α
 | []=>[x]
 | y :: l=>if c y x < 0 then y :: putO c x l else if y = x then y :: l else x :: y :: l
theorem putO_mem {α:Type} {c:α → α → Int} [DecidableEq α] (x y:α):∀ l:List α,y ∈ putO c x l ↔ y = x ∨ y ∈ l
 | []=>by simp [putO]
 | z :: l=>by
  have ih:=putO_mem (c:=c) x y l
  simp only [putO]
  split
  ·rw [List.mem_cons,ih,List.mem_cons]
   constructor
   ·rintro (h | h | h)
    ·exact .inr (.inl h)
    ·exact .inl h
    ·exact .inr (.inr h)
   ·rintro (h | h | h)
    ·exact .inr (.inl h)
    ·exact .inl h
    ·exact .inr (.inr h)
  ·split
   ·rename_i h
    rw [List.mem_cons]
    constructor
    ·exact fun h=>.inr h
    ·rintro (h1 | h1)
     ·exact .inl (h1.trans h.symm)
     ·exact h1
   ·rw [List.mem_cons]
theorem putO_sorted {α:Type} {c:α → α → Int} {P:α → Prop} [DecidableEq α] (h:TO c P) {x:α} (hx:P x):∀ {l:List α},(∀ y ∈ l,P y) → SS c l → SS c (putO c x l)
 | [],_,_=>by simp [putO,SS]
 | z :: l,hl,hs=>by
  obtain ⟨s1,s2⟩:=List.pairwise_cons.1 hs
  have hz:=hl z (by simp)
  have ih:=putO_sorted h hx (fun y hy=>hl y (by simp [hy])) s2
  simp only [putO]
  split
  ·rename_i h1
   refine List.pairwise_cons.2 ⟨fun y hy=>?_,ih⟩
   rcases (putO_mem x y l).1 hy with rfl | hy
   ·exact h1
   ·exact s1 y hy
  ·rename_i h1
   split
   ·exact hs
   ·rename_i h2
    have h3:=h.anti x z hx hz
    have h4:c x z ≠ 0:=fun e=>h2 (h.eq x z hx hz e).symm
    have h5:c x z < 0:=by omega
    refine List.pairwise_cons.2 ⟨fun y hy=>?_,hs⟩
    rcases List.mem_cons.1 hy with rfl | hy
    ·exact h5
    ·exact h.trans x z y hx hz (hl y (by simp [hy])) h5 (s1 y hy)
def putN {α:Type} (c:α → α → Int) (x:α):List α → Nat
 | []=>0
 | y :: l=>if c y x < 0 then putN c x l + 1 else 0
theorem putN_le {α:Type} (c:α → α → Int) (x:α):∀ l:List α,putN c x l ≤ l.length
 | []=>Nat.le_refl _
 | y :: l=>by
  have:=putN_le c x l
  simp only [putN]; split <;> simp <;> omega
theorem putN_lt {α:Type} (c:α → α → Int) (x:α):∀ (l:List α) (j:Nat) (hj:j < l.length),j < putN c x l → c l[j] x < 0
 | [],j,hj,_=>by simp at hj
 | y :: l,0,_,h=>by
  simp only [putN] at h
  split at h
  ·rename_i hc; simpa using hc
  ·omega
 | y :: l,j + 1,hj,h=>by
  simp only [putN] at h
  split at h
  ·simpa using putN_lt c x l j (by simpa using hj) (by omega)
  ·omega
theorem putN_stop {α:Type} (c:α → α → Int) (x:α):∀ (l:List α) (h:putN c x l < l.length),¬ c l[putN c x l] x < 0
 | [],h=>by simp at h
 | y :: l,h=>by
  by_cases hc:c y x < 0
  ·have e:putN c x (y :: l) = putN c x l + 1:=by simp only [putN]; rw [if_pos hc]
   simp only [e] at h ⊢
   simpa using putN_stop c x l (by simpa using h)
  ·have e:putN c x (y :: l) = 0:=by simp only [putN]; rw [if_neg hc]
   simp only [e]
   simpa using hc
theorem putO_at {α:Type} [DecidableEq α] (c:α → α → Int) (x:α):∀ l:List α,putO c x l = if l[putN c x l]? = some x then l else l.take (putN c x l) ++ x :: l.drop (putN c x l)
 | []=>by simp [putO,putN]
 | y :: l=>by
  have ih:=putO_at c x l
  by_cases h1:c y x < 0
  ·have e1:putO c x (y :: l) = y :: putO c x l:=by simp only [putO]; rw [if_pos h1]
   have e2:putN c x (y :: l) = putN c x l + 1:=by simp only [putN]; rw [if_pos h1]
   rw [e1,ih]
   simp only [e2,List.getElem?_cons_succ,List.take_succ_cons,List.drop_succ_cons,List.cons_append]
   split <;> rfl
  ·have e1:putO c x (y :: l) = if y = x then y :: l else x :: y :: l:=by simp only [putO]; rw [if_neg h1]
   have e2:putN c x (y :: l) = 0:=by simp only [putN]; rw [if_neg h1]
   rw [e1]
   simp only [e2,List.getElem?_cons_zero,Option.some.injEq,List.take_zero,List.drop_zero,List.nil_append]
theorem SS.one {α:Type} {c:α → α → Int} {P:α → Prop} (h:TO c P):∀ {l m:List α},(∀ x ∈ l,P x) → SS c l → SS c m → (∀ x,x ∈ l ↔ x ∈ m) → l = m
 | [],m,_,_,_,he=>by
  cases m with
  | nil=>rfl
  | cons y m=>exact absurd ((he y).2 (by simp)) (by simp)
 | x :: l,m,hl,hs,hm,he=>by
  cases m with
  | nil=>exact absurd ((he x).1 (by simp)) (by simp)
  | cons y m =>
   obtain ⟨a1,a2⟩:=List.pairwise_cons.1 hs
   obtain ⟨b1,b2⟩:=List.pairwise_cons.1 hm
   have hPx:=hl x (by simp)
   have hPy:P y:=hl y ((he y).2 (by simp))
   have hxy:x = y:=by
    rcases List.mem_cons.1 ((he x).1 (by simp)) with e | hx
    ·exact e
    ·rcases List.mem_cons.1 ((he y).2 (by simp)) with e | hy
     ·exact e.symm
     ·have q1:=b1 x hx
      have q2:=a1 y hy
      have q3:=h.anti x y hPx hPy
      omega
   subst hxy
   refine congrArg (x :: ·) (SS.one h (fun z hz=>hl z (by simp [hz])) a2 b2 fun z=>?_)
   have hz:=he z
   have hself:=h.self x hPx
   constructor
   ·intro h1
    rcases List.mem_cons.1 (hz.1 (by simp [h1])) with e | h2
    ·subst e; have:=a1 z h1; omega
    ·exact h2
   ·intro h1
    rcases List.mem_cons.1 (hz.2 (by simp [h1])) with e | h2
    ·subst e; have:=b1 z h1; omega
    ·exact h2
def ordL {α:Type} [DecidableEq α] (c:α → α → Int) (m:List α) (l:List α):List α:=l.foldl (fun a x=>putO c x a) m
theorem ordL_spec {α:Type} {c:α → α → Int} {P:α → Prop} [DecidableEq α] (h:TO c P):∀ (l m:List α),(∀ x ∈ l,P x) → (∀ x ∈ m,P x) → SS c m → SS c (ordL c m l) ∧ (∀ x,x ∈ ordL c m l ↔ x ∈ m ∨ x ∈ l)
 | [],m,_,_,hs=>⟨hs,fun x=>by simp [ordL]⟩
 | y :: l,m,hl,hm,hs=>by
  have hy:=hl y (by simp)
  obtain ⟨i1,i2⟩:=ordL_spec h l (putO c y m) (fun x hx=>hl x (by simp [hx])) (fun x hx=>by
   rcases (putO_mem y x m).1 hx with rfl | hx
   ·exact hy
   ·exact hm x hx) (putO_sorted h hy hm hs)
  refine ⟨i1,fun x=>?_⟩
  show x ∈ ordL c (putO c y m) l ↔ _
  rw [i2,putO_mem,List.mem_cons]
  constructor
  ·rintro ((h | h) | h)
   ·exact .inr (.inl h)
   ·exact .inl h
   ·exact .inr (.inr h)
  ·rintro (h | h | h)
   ·exact .inl (.inr h)
   ·exact .inl (.inl h)
   ·exact .inr h
theorem ordL_append {α:Type} [DecidableEq α] (c:α → α → Int) (m l l':List α):ordL c m (l ++ l') = ordL c (ordL c m l) l':=List.foldl_append
theorem ptTO:TO pcmp fun p=>vP p = true where
 self:=fun p hp=>pcmp_self p (vP_bound hp).pk
 anti:=fun p q hp hq=>pcmp_anti (vP_bound hp).pk (vP_bound hq).pk
 trans:=fun p q r hp hq hr=>pcmp_trans (vP_bound hp).pk (vP_bound hq).pk (vP_bound hr).pk
 eq:=fun p q hp hq=>pcmp_eq hp hq
def cmpN (l:List Pt):Nat → List Pt
 | 0=>[]
 | k + 1=>cmpN l k ++ if k = 0 ∨ nth l k ≠ nth l (k - 1) then [nth l k] else []
theorem cmpN_len (l:List Pt):∀ k,(cmpN l k).length ≤ k
 | 0=>by simp [cmpN]
 | k + 1=>by
  have:=cmpN_len l k
  simp only [cmpN]; split <;> simp <;> omega
theorem cmpN_mem {l:List Pt} {x:Pt}:∀ {k:Nat},x ∈ cmpN l k ↔ ∃ j,j < k ∧ x = nth l j
 | 0=>by simp [cmpN]
 | k + 1=>by
  have ih:=cmpN_mem (l:=l) (x:=x) (k:=k)
  simp only [cmpN,List.mem_append,ih]
  constructor
  ·rintro (⟨j,h1,h2⟩ | h)
   ·exact ⟨j,by omega,h2⟩
   ·split at h
    ·exact ⟨k,by omega,by simpa using h⟩
    ·simp at h
  ·rintro ⟨j,h1,h2⟩
   by_cases hjk:j < k
   ·exact .inl ⟨j,hjk,h2⟩
   ·obtain rfl:j = k:=by omega
    split
    ·exact .inr (by simp [h2])
    ·rename_i h3
     have h4:j ≠ 0 ∧ nth l j = nth l (j - 1):=by
      refine ⟨fun e=>h3 (.inl e),Classical.byContradiction fun e=>h3 (.inr e)⟩
     exact .inl ⟨j - 1,by omega,by rw [h2]; exact h4.2⟩
theorem cmpN_sorted {l:List Pt} (hv:∀ p ∈ l,vP p = true) (hs:WS pcmp l):∀ k,k ≤ l.length → SS pcmp (cmpN l k)
 | 0,_=>by simp [cmpN,SS]
 | k + 1,hk=>by
  have ih:=cmpN_sorted hv hs k (by omega)
  simp only [cmpN]
  split
  ·rename_i hc
   refine List.pairwise_append.2 ⟨ih,by simp,fun x hx y hy=>?_⟩
   obtain rfl:=List.mem_singleton.1 hy
   obtain ⟨j,hj,rfl⟩:=cmpN_mem.1 hx
   rcases hc with rfl | hc
   ·omega
   have hw:∀ a b,a < b → b < l.length → ¬ pcmp (nth l b) (nth l a) < 0:=fun a b hab hb=>by
    unfold WS at hs
    rw [List.pairwise_iff_getElem] at hs
    have:=hs a b (by omega) hb hab
    rwa [nth_eq hb,nth_eq (by omega:a < l.length)]
   have v:∀ a,a < l.length → vP (nth l a) = true:=fun a ha=>hv _ (nth_mem ha)
   have w1:=hw j k hj (by omega)
   have a1:=ptTO.anti _ _ (v j (by omega)) (v k (by omega))
   by_cases e:pcmp (nth l j) (nth l k) = 0
   ·exfalso
    have e1:=ptTO.eq _ _ (v j (by omega)) (v k (by omega)) e
    have w2:=hw (k - 1) k (by omega) (by omega)
    by_cases hjk:j = k - 1
    ·subst hjk; exact hc e1.symm
    ·have w3:=hw j (k - 1) (by omega) (by omega)
     have a2:=ptTO.anti _ _ (v (k - 1) (by omega)) (v k (by omega))
     rw [e1] at w3
     exact hc (ptTO.eq _ _ (v k (by omega)) (v (k - 1) (by omega)) (by omega))
   ·omega
  ·simpa using ih
theorem cmpN_ordL {l m:List Pt} (hv:∀ p ∈ l,vP p = true) (hp:m.Perm l) (hs:WS pcmp m):cmpN m m.length = ordL pcmp [] l:=by
 have hvm:∀ p ∈ m,vP p = true:=fun p hp'=>hv p (hp.mem_iff.1 hp')
 obtain ⟨i1,i2⟩:=ordL_spec ptTO l [] hv (by simp) (by simp [SS])
 refine SS.one ptTO (fun x hx=>?_) (cmpN_sorted hvm hs _ (Nat.le_refl _)) i1 fun x=>?_
 ·obtain ⟨j,hj,rfl⟩:=cmpN_mem.1 hx
  exact hvm _ (nth_mem hj)
 ·rw [i2,cmpN_mem]
  simp only [List.not_mem_nil,false_or]
  rw [← hp.mem_iff]
  constructor
  ·rintro ⟨j,hj,rfl⟩; exact nth_mem hj
  ·intro hx
   obtain ⟨j,hj,rfl⟩:=List.getElem_of_mem hx
   exact ⟨j,hj,(nth_eq hj).symm⟩
end Go.Vai
namespace Go.Vai
theorem meet_low {l m:Li} (hl:Lok l) (hm:Lok m):low (meetP l m).x = (meetP l m).x ∧ low (meetP l m).y = (meetP l m).y:=by
 have a:=vec_k (l.dir + 4)
 have b:=vec_k (m.dir + 4)
 refine ⟨?_, ?_⟩
 ·show low (ndiv _ _ _ _) = ndiv _ _ _ _
  unfold ndiv
  exact low_low (by have:=nadd_k (x:=nmul l.off (vec (m.dir + 4)).y) (y:=nneg (nmul m.off (vec (l.dir + 4)).y)) (nmul_k hl.k0 b.2); simp only [nsub]; omega)
 ·show low (ndiv _ _ _ _) = ndiv _ _ _ _
  unfold ndiv
  exact low_low (by have:=nadd_k (x:=nmul m.off (vec (l.dir + 4)).x) (y:=nneg (nmul l.off (vec (m.dir + 4)).x)) (nmul_k hm.k0 a.1); simp only [nsub]; omega)
theorem meet_is {l m:Li} (hl:Lok l) (hm:Lok m) (hne:l.dir ≠ m.dir) {p:Pt} (hp:vP p = true) (h1:on l p) (h2:on m p):meetP l m = p:=by
 have hk:=(vP_bound hp).pk
 have hM:=meet_k hl hm
 have a:=vec_k (l.dir + 4)
 have b:=vec_k (m.dir + 4)
 obtain ⟨o1,o2⟩:=meet_on hl hm hne
 obtain ⟨i,hi⟩:=det_unit hl hm hne
 have hD:val (detL l m) = val (vec (l.dir + 4)).x * val (vec (m.dir + 4)).y - val (vec (l.dir + 4)).y * val (vec (m.dir + 4)).x:=val_pcross a b
 obtain ⟨l1,l2⟩:=meet_low hl hm
 unfold vP at hp
 rw [Bool.and_eq_true] at hp
 have ex:val (meetP l m).x = val p.x:=by
  unfold on at *
  grind
 have ey:val (meetP l m).y = val p.y:=by
  unfold on at *
  grind
 have q1:=val_inj hM.1 hk.1 l1 (vN_low hp.1) ex
 have q2:=val_inj hM.2 hk.2 l2 (vN_low hp.2) ey
 generalize meetP l m = q at *
 cases q; cases p
 simp only at q1 q2
 rw [q1,q2]
def segI (l:Li) (p q:Pt):List Pt:=(if sd l p = 0 then [p] else []) ++ ((if sd l q = 0 then [q] else []) ++ if sd l p * sd l q < 0 then [meetP (sideL p q) l] else [])
def segS (l:Li) (p q:Pt):List Pt:=if dirR (pminus q p) % 8 = l.dir then (if sd l p = 0 then [p,q] else []) else if 0 < sd l p * sd l q then [] else [meetP (sideL p q) l]
theorem vL_ok {l:Li} (h:vL l = true):Lok l:=by
 unfold vL at h
 rw [Bool.and_eq_true] at h
 have h1:=h.1
 unfold inB at h1
 simp only [Bool.and_eq_true,decide_eq_true_eq] at h1
 have hb:=vN_bound h.2
 exact ⟨h1.1,h1.2,hb.k0,vN_low h.2⟩
theorem seg_ne {p q:Pt} (hp:PK p) (hq:PK q) (hd:0 ≤ dirR (pminus q p)):¬ (val q.x = val p.x ∧ val q.y = val p.y):=by
 intro he
 have f:=(dseg hp hq hd).fwd
 rw [he.1,he.2] at f
 exact f.ne (by grind)
theorem par_same {l:Li} {p q:Pt} (hl:Lok l) (hp:PK p) (hq:PK q) (hd:0 ≤ dirR (pminus q p)) (he:dirR (pminus q p) % 8 = l.dir):sd l p = sd l q:=by
 obtain ⟨o1,o2⟩:=side_ends hp hq hd
 refine sd_same hl hp hq ?_
 have hv:=vec_k (l.dir + 4)
 rw [val_ndot hv hp,val_ndot hv hq]
 have e:(sideL p q).dir = l.dir:=he
 unfold on at o1 o2
 rw [e] at o1 o2
 rw [o1,o2]
theorem seg_same {l:Li} {p q:Pt} (hl:Lok l) (hp:vP p = true) (hq:vP q = true) (hd:0 ≤ dirR (pminus q p)):segI l p q = segS l p q:=by
 have kp:=(vP_bound hp).pk
 have kq:=(vP_bound hq).pk
 have r1:=sd_range l p
 have r2:=sd_range l q
 obtain ⟨o1,o2⟩:=side_ends kp kq hd
 unfold segI segS
 by_cases he:dirR (pminus q p) % 8 = l.dir
 ·rw [if_pos he,par_same hl kp kq hd he]
  have hz:¬ sd l q * sd l q < 0:=by
   rcases r2 with h | h | h <;> rw [h] <;> decide
  rw [if_neg hz]
  split <;> simp
 ·rw [if_neg he]
  have hne:(sideL p q).dir ≠ l.dir:=he
  by_cases z1:sd l p = 0
  ·have hm:meetP (sideL p q) l = p:=meet_is (sideL_ok kp) hl hne hp o1 ((sd_zero hl kp).1 z1)
   have z2:¬ sd l q = 0:=fun z2=>by
    have:=(sideL_on hl kp kq ((sd_zero hl kp).1 z1) ((sd_zero hl kq).1 z2) (seg_ne kp kq hd)).2
    exact hne (by rw [this])
   rw [if_pos z1,if_neg z2,z1,Int.zero_mul,if_neg (by decide),if_neg (by decide),hm]
   rfl
  ·by_cases z2:sd l q = 0
   ·have hm:meetP (sideL p q) l = q:=meet_is (sideL_ok kp) hl hne hq o2 ((sd_zero hl kq).1 z2)
    rw [if_neg z1,if_pos z2,z2,Int.mul_zero,if_neg (by decide),if_neg (by decide),hm]
    rfl
   ·rw [if_neg z1,if_neg z2]
    have hd':sd l p * sd l q < 0 ∨ 0 < sd l p * sd l q:=by
     rcases r1 with h | h | h <;> rcases r2 with h' | h' | h' <;> rw [h,h'] <;> first | exact absurd h z1 | exact absurd h' z2 | decide
    rcases hd' with h | h
    ·rw [if_pos h,if_neg (by omega)]; rfl
    ·rw [if_neg (by omega),if_pos h]; rfl
structure Se where
 p:Pt
 q:Pt
 k:Int
 deriving DecidableEq,Inhabited
def encSe (s:Se):List IV:=encP s.p ++ (encP s.q ++ [.int .i64 s.k])
def segC (ps:List Pt) (c:Cr):Se:=⟨pI ps c.a,pI ps c.b,c.k⟩
def segL (ps:List Pt) (cs:List Cr):List Se:=cs.map (segC ps)
def onN (l:Li) (ps:List Pt) (cs:List Cr):Nat → List Pt
 | 0=>[]
 | n + 1=>onN l ps cs n ++ segI l (pI ps (getK cs n).a) (pI ps (getK cs n).b)
theorem segI_len (l:Li) (p q:Pt):(segI l p q).length ≤ 3:=by
 unfold segI
 split <;> split <;> split <;> simp
theorem onN_len (l:Li) (ps:List Pt) (cs:List Cr):∀ n,(onN l ps cs n).length ≤ 3 * n
 | 0=>by simp [onN]
 | n + 1=>by
  have:=onN_len l ps cs n
  have:=segI_len l (pI ps (getK cs n).a) (pI ps (getK cs n).b)
  simp only [onN,List.length_append]
  omega
theorem onN_pre (l:Li) (ps:List Pt) (cs:List Cr) {m:Nat}:∀ {n:Nat},m ≤ n → ∀ p ∈ onN l ps cs m,p ∈ onN l ps cs n
 | 0,h,p,hp=>by
  obtain rfl:m = 0:=by omega
  exact hp
 | n + 1,h,p,hp=>by
  by_cases e:m = n + 1
  ·subst e; exact hp
  ·simp only [onN,List.mem_append]
   exact .inl (onN_pre l ps cs (by omega) p hp)
noncomputable def onC (l:Li) (ps:List Pt) (cs:List Cr):Int:=if (vB ps cs && vL l) = true then (if (onN l ps cs cs.length).all vP = true then 0 else 2) else 1
noncomputable def onR (l:Li) (ps:List Pt) (cs:List Cr):List Pt:=if onC l ps cs = 0 then ordL pcmp [] (onN l ps cs cs.length) else []
theorem putO_len {α:Type} [DecidableEq α] (c:α → α → Int) (x:α):∀ l:List α,(putO c x l).length ≤ l.length + 1
 | []=>by simp [putO]
 | y :: l=>by
  have:=putO_len c x l
  simp only [putO]
  split
  ·simp; omega
  ·split <;> simp
theorem ordL_len {α:Type} [DecidableEq α] (c:α → α → Int):∀ (l m:List α),(ordL c m l).length ≤ m.length + l.length
 | [],m=>by simp [ordL]
 | y :: l,m=>by
  have h1:=ordL_len c l (putO c y m)
  have h2:=putO_len c y m
  have h3:ordL c m (y :: l) = ordL c (putO c y m) l:=rfl
  rw [h3]
  simp only [List.length_cons]
  omega
end Go.Vai
set_option maxHeartbeats 8000000
set_option maxRecDepth 20000
namespace Go.Vai
open Pq
theorem eqlP (x y:Pt):eqOp E .eql 85 (encP x) (encP y) = some (.i (.bool (decide (x = y)))):=by
 obtain ⟨⟨a,b,k⟩,⟨c,d,l⟩⟩:=x
 obtain ⟨⟨a',b',k'⟩,⟨c',d',l'⟩⟩:=y
 simp [encP,eqOp,eqA,eqFs,partA,and_assoc,Bool.and_assoc,Bool.or_assoc]
end Go.Vai
namespace Go.Vai
open Pq
theorem neqP (x y:Pt):eqOp E .neq 85 (encP x) (encP y) = some (.i (.bool (!decide (x = y)))):=by
 obtain ⟨⟨a,b,k⟩,⟨c,d,l⟩⟩:=x
 obtain ⟨⟨a',b',k'⟩,⟨c',d',l'⟩⟩:=y
 simp [encP,eqOp,eqA,eqFs,partA,and_assoc,Bool.and_assoc,Bool.or_assoc]
def pt0:Pt:=⟨⟨0,0,0⟩,⟨0,0,0⟩⟩
def cmpZ (l:List Pt):List Pt:=cmpN l l.length ++ List.replicate (l.length - (cmpN l l.length).length) pt0
theorem cmpZ_len (l:List Pt):(cmpZ l).length = l.length:=by
 have:=cmpN_len l l.length
 simp [cmpZ]; omega
theorem encPs_zlen (l:List Pt):(encPs (cmpZ l)).length = l.length:=by simp [cmpZ_len]
theorem cmpN_short {l:List Pt} (h:l.length < 2):cmpN l l.length = l:=by
 cases l with
 | nil=>rfl
 | cons x l =>
  cases l with
  | nil=>rfl
  | cons y l=>simp only [List.length_cons] at h; omega
theorem cmpN_one {l:List Pt} (h:¬ l.length < 2):cmpN l 1 = l.take 1:=by
 cases l with
 | nil=>simp at h
 | cons a l=>rfl
theorem clr_allP {l kept:List Pt} {i n:Nat} (hl:l.length = n) (hk:l.take i = kept) (hi:i ≤ n):clr (encPs l) i (n - i) [.int .i64 0,.int .i64 0,.int .i64 0,.int .i64 0,.int .i64 0,.int .i64 0] = encPs (kept ++ List.replicate (n - i) pt0):=by
 subst hk
 simp only [clr,encPs,← List.map_take,List.map_append,List.map_replicate]
 rw [List.drop_of_length_le (by simp; omega)]; simp [encP,pt0]
theorem nth_drop {A l:List Pt} {i j:Nat} (h:A.drop i = l.drop i) (hl:A.length = l.length) (hj:i ≤ j) (hjl:j < l.length):nth A j = nth l j:=by
 rw [nth_eq hjl,nth_eq (by omega:j < A.length)]
 have:=congrArg (fun l=>l[j - i]?) h
 simp only [List.getElem?_drop] at this
 rw [show i + (j - i) = j by omega,List.getElem?_eq_getElem (by omega),List.getElem?_eq_getElem hjl] at this
 exact Option.some.inj this
theorem encPs_set (l:List Pt) (i:Nat) (p:Pt):(encPs l).set i (encP p) = encPs (l.set i p):=by
 simp [encPs,List.map_set]
theorem c80 (l:List Pt) (h:(l.length:Int) ≤ 1048576) :
  PM E 80 [.sl ⟨6,encPs l⟩] [⟨6,encPs (cmpZ l)⟩] [] (some (0,0,(cmpN l l.length).length)):=by
 refine PP_start hE Proofs.Tryz.func80 rfl rfl Proofs.Tryz.ntmps80 (by kernel_rfl) (by kernel_rfl) (by simp) (by simp [cmpZ_len]) ?_
 simp (maxSteps:=999999) (disch:=first|exact {}|omega|simp) [zS]
 by_cases h2:l.length < 2
 ·have e:cmpN l l.length = l:=cmpN_short h2
  have e2:cmpZ l = l:=by unfold cmpZ; rw [e]; simp
  simp (maxSteps:=999999) (disch:=first|exact {}|omega|simp) [zS,h2,e,e2]
 have h2':¬ (l.length:Int) < 2:=by omega
 simp (maxSteps:=999999) (disch:=first|exact {}|omega|simp) [zS,h2,h2']
 have c1:=cmpN_one h2
 refine XL.by hE (ι:={ k:Nat // 1 ≤ k ∧ k ≤ l.length ∧ cmpN l k = l.take k }) (fun k=>⟨[(0,.own 700000 0 l.length),(3,.i (.int .i64 k.1))],[(700000,⟨6,encPs l⟩)]⟩)
  (fun k=>l.length - k.1) ⟨1,Nat.le_refl _,by omega,c1⟩ ⟨by simp,by simp,by simp⟩ (by kernel_rfl) ?_
 rintro ⟨k,hk1,hk,hc⟩
 by_cases hlt:k < l.length
 rotate_left
 ·obtain rfl:k = l.length:=by omega
  have e:cmpN l l.length = l:=by rw [hc]; simp
  have e2:cmpZ l = l:=by unfold cmpZ; rw [e]; simp
  simp (maxSteps:=999999) (disch:=first|exact {}|omega|simp) [zS,hlt,e,e2]
 have g1:=encPs_get hlt
 have g2:=encPs_get (l:=l) (k:=k - 1) (by omega)
 have e1:(k:Int) - 1 = ((k - 1:Nat):Int):=by omega
 have lt2:k - 1 < l.length:=by omega
 have hst:cmpN l (k + 1) = cmpN l k ++ if k = 0 ∨ nth l k ≠ nth l (k - 1) then [nth l k] else []:=rfl
 have heq:=eqlP (nth l k) (nth l (k - 1))
 by_cases he:nth l k = nth l (k - 1)
 rotate_left
 ·have hs:cmpN l (k + 1) = l.take (k + 1):=by
   rw [hst,if_pos (.inr he),hc,List.take_succ_eq_append_getElem hlt,nth_eq hlt]
  simp (maxSteps:=999999) (disch:=first|exact {}|omega|simp) [zS,hlt,g1,g2,e1,lt2,heq,he]
  (refine ⟨⟨k + 1,by omega,by omega,hs⟩,by (simp; try omega), ?_⟩; constructor <;> (simp (maxSteps:=999999) (disch:=first|exact {}|omega|simp) [zS]) <;> (try omega))
 have hs:cmpN l (k + 1) = l.take k:=by
  rw [hst,if_neg (by rintro (h | h); omega; exact h he),hc]; simp
 rw [he] at g1 heq
 simp (maxSteps:=999999) (disch:=first|exact {}|omega|simp) [zS,hlt,g1,g2,e1,lt2,heq,he,hk]
 have hl1:(l.take k).length = k:=by simp; omega
 refine XL.by hE (ι:={ q:Nat × List Pt // 1 ≤ q.1 ∧ k + q.1 ≤ l.length ∧ q.2.length = l.length ∧ (cmpN l (k + q.1)).length + 1 ≤ k + q.1 ∧ q.2.take (cmpN l (k + q.1)).length = cmpN l (k + q.1) ∧ q.2.drop (k + q.1 - 1) = l.drop (k + q.1 - 1) })
  (fun q=>⟨[(0,.own 700000 0 l.length),(3,.i (.int .i64 (cmpN l (k + q.1.1)).length)),(4,.own 700000 k (l.length - k)),(5,.i (.int .i64 q.1.1))],[(700000,⟨6,encPs q.1.2⟩)]⟩)
  (fun q=>l.length - q.1.1) ⟨(1,l),Nat.le_refl _,by omega,rfl,by rw [hs,hl1]; omega,by rw [hs,hl1],rfl⟩ ⟨by simp [hs,hl1],by simp,by simp⟩ (by kernel_rfl) ?_
 rintro ⟨⟨q,A⟩,hq1,hq,hA,hk2,ht,hd⟩
 simp only at hq1 hq hA hk2 ht hd
 have hlk:((l.length - k:Nat):Int) = (l.length:Int) - k:=by omega
 by_cases hq2:k + q < l.length
 rotate_left
 ·obtain rfl:q = l.length - k:=by omega
  have hkl:k + (l.length - k) = l.length:=by omega
  rw [hkl] at ht hk2
  have hcl:=clr_allP hA ht (by omega)
  have hle:=cmpN_len l l.length
  have hq3:¬ ((l.length - k:Nat):Int) < ((l.length - k:Nat):Int):=by omega
  simp (maxSteps:=999999) (disch:=first|exact {}|omega|simp) [zS,hA,hle,hkl]
  have e5:((l.length:Int) - (cmpN l l.length).length).toNat = l.length - (cmpN l l.length).length:=by omega
  simp [hcl,cmpZ]
 have hql:q < l.length - k:=by omega
 have n1:=nth_drop hd hA (j:=k + q) (by omega) hq2
 have n2:=nth_drop hd hA (j:=k + q - 1) (by omega) (by omega)
 have a1:=encPs_get (l:=A) (k:=k + q) (by omega)
 have a2:=encPs_get (l:=A) (k:=k + q - 1) (by omega)
 rw [n1] at a1
 rw [n2] at a2
 have e2:(q:Int) - 1 = ((q - 1:Nat):Int):=by omega
 have e3:k + (q - 1) = k + q - 1:=by omega
 have lt3:q - 1 < l.length - k:=by omega
 have lt4:k + q < A.length:=by omega
 have lt5:k + q - 1 < A.length:=by omega
 have hstq:cmpN l (k + q + 1) = cmpN l (k + q) ++ if k + q = 0 ∨ nth l (k + q) ≠ nth l (k + q - 1) then [nth l (k + q)] else []:=rfl
 have hne:=neqP (nth l (k + q)) (nth l (k + q - 1))
 have kq:k + (q + 1) = k + q + 1:=by omega
 by_cases heq2:nth l (k + q) = nth l (k + q - 1)
 ·have hsq:cmpN l (k + q + 1) = cmpN l (k + q):=by
   rw [hstq,if_neg (by rintro (h | h); omega; exact h heq2)]; simp
  rw [heq2] at a1 hne
  simp (maxSteps:=999999) (disch:=first|exact {}|omega|simp) [zS,hql,a1,a2,e2,e3,lt3,lt4,lt5,hne,n1,n2,heq2]
  (refine ⟨⟨(q + 1,A),by omega,by omega,hA,by simp only; rw [kq,hsq]; omega,by simp only; rw [kq,hsq]; exact ht,by
   simp only
   have:=congrArg (List.drop 1) hd
   rw [List.drop_drop,List.drop_drop] at this
   rwa [show k + q - 1 + 1 = k + (q + 1) - 1 by omega] at this⟩,by (simp; try omega), ?_⟩; constructor <;> (simp (maxSteps:=999999) (disch:=first|exact {}|omega|simp) [zS,kq,hsq]) <;> (try omega))
 ·have hsq:cmpN l (k + q + 1) = cmpN l (k + q) ++ [nth l (k + q)]:=by
   rw [hstq,if_pos (.inr heq2)]
  have hsl:(cmpN l (k + q + 1)).length = (cmpN l (k + q)).length + 1:=by rw [hsq]; simp
  have lt6:(cmpN l (k + q)).length < A.length:=by omega
  have lt7:(cmpN l (k + q)).length < l.length:=by omega
  have a3:=encPs_get lt6
  have d6:∀ p:Pt,List.drop 6 (encP p) = []:=fun _=>rfl
  have hse:=encPs_set A (cmpN l (k + q)).length (nth l (k + q))
  simp (maxSteps:=999999) (disch:=first|exact {}|omega|simp) [zS,hql,a1,a2,e2,e3,lt3,lt4,lt5,hne,n1,n2,heq2,lt6,lt7,a3,d6,hse]
  (refine ⟨⟨(q + 1,A.set (cmpN l (k + q)).length (nth l (k + q))),by omega,by omega,by simpa using hA,by simp only; rw [kq,hsl]; omega,by
   simp only
   rw [kq,hsl,hsq,List.take_succ_eq_append_getElem (by simpa using lt6)]
   have h4:(A.set (cmpN l (k + q)).length (nth l (k + q))).take (cmpN l (k + q)).length = cmpN l (k + q):=by rw [List.take_set,List.set_eq_of_length_le (by simp; omega),ht]
   simp [h4],by
   simp only
   rw [List.drop_set_of_lt (by omega)]
   have:=congrArg (List.drop 1) hd
   rw [List.drop_drop,List.drop_drop] at this
   rwa [show k + q - 1 + 1 = k + (q + 1) - 1 by omega] at this⟩,by (simp; try omega), ?_⟩; constructor <;> (simp (maxSteps:=999999) (disch:=first|exact {}|omega|simp) [zS,kq,hsl]) <;> (try omega))
theorem memP_len (l:List Pt):(∀ x ∈ encPs l,x.length = 6) = True:=by
 refine eq_true fun x hx=>?_
 obtain ⟨a,-,rfl⟩:=List.mem_map.1 hx
 rfl
theorem c66 (l:List Pt) (q:Pt) (hv:∀ p ∈ l,vP p = true) (hq:vP q = true) (h:(l.length:Int) ≤ 1048575):PC E 66 [.i (.sl (encPs l)),.agg (encP q)] [.i (.sl (encPs (putO pcmp q l)))]:=by
 have hat:=putO_at pcmp q l
 have hle:=putN_le pcmp q l
 have hlt1:=putN_lt pcmp q l
 have hstp:=putN_stop pcmp q l
 generalize putN pcmp q l = B at *
 have hcm:∀ k,(hk:k < l.length) → PC E 130 [.agg (encP (nth l k)),.agg (encP q)] [.i (.int .i64 (pcmp (nth l k) q))]:=fun k hk=>c130 _ _ (vP_bound (hv _ (nth_mem hk))) (vP_bound hq) (by decide) (by decide)
 have hb1:∀ k,k < B → pcmp (nth l k) q < 0:=fun k hk=>by rw [nth_eq (by omega:k < l.length)]; exact hlt1 k (by omega) hk
 have hb2:B < l.length → ¬ pcmp (nth l B) q < 0:=fun hk=>by rw [nth_eq hk]; exact hstp hk
 clear hlt1 hstp
 have l1:(encPs l).length = l.length:=by simp
 by_cases hx:l[B]? = some q
 ·rw [if_pos hx] at hat
  obtain ⟨hB,hBq⟩:=List.getElem?_eq_some_iff.1 hx
  rw [hat]
  refine zP hE Proofs.Tryz.func66 Proofs.Tryz.ntmps66 rfl rfl ?_
  simp (maxSteps:=999999) (disch:=first|exact {}|omega|simp) [zS]
  refine XL.by hE (ι:={ k:Nat // k ≤ B }) (fun k=>⟨[(0,.i (.sl (encPs l))),(3,.ptr 3 0 0),(5,.i (.int .i64 k.1))],[(3,⟨6,[encP q]⟩)]⟩)
   (fun k=>B - k.1) ⟨0,Nat.zero_le _⟩ ⟨by simp,by simp,by simp⟩ (by kernel_rfl) ?_
  rintro ⟨k,hk⟩
  have hkl:k < l.length:=by omega
  have g:=encPs_get hkl
  by_cases hkB:k < B
  ·have hlt:=hb1 k hkB
   simp (maxSteps:=999999) (disch:=first|exact {}|omega|simp) [zS,hkl,g,l1]
   refine zC (hcm k hkl) ?_
   simp (maxSteps:=999999) (disch:=first|exact {}|omega|simp) [zS,hlt,hkl]
   (refine ⟨⟨k + 1,by omega⟩,by (simp; try omega), ?_⟩; constructor <;> (simp (maxSteps:=999999) (disch:=first|exact {}|omega|simp) [zS]) <;> (try omega))
  ·obtain rfl:k = B:=by omega
   have hlt:=hb2 hkl
   have hn:nth l k = q:=by rw [nth_eq hkl,hBq]
   have hcq:=hcm k hkl
   have heq:=eqlP q q
   rw [hn] at hlt g hcq
   obtain ⟨g1,g2⟩:=List.getElem?_eq_some_iff.1 g
   simp (maxSteps:=999999) (disch:=first|exact {}|omega|simp) [zS,hkl,g,g2,l1]
   refine zC (hcq) ?_
   simp (maxSteps:=999999) (disch:=first|exact {}|omega|simp) [zS,hlt,hkl,g,g2,heq]
 ·rw [if_neg hx] at hat
  have t3:encPs (putO pcmp q l) = encPs (l.take B) ++ (encP q :: encPs (l.drop B)):=by rw [hat]; simp [encPs]
  have t1:(encPs l).take B = encPs (l.take B):=by simp [encPs]
  have t2:(encPs l).drop B = encPs (l.drop B):=by simp [encPs]
  refine PC.imm (sz:=6) ?_
  rw [t3]
  have hm:=memP_len l
  have hmA:=memP_len (l.take B)
  have hmB:=memP_len (l.drop B)
  have l2:(encPs (l.take B)).length = B:=by simp; omega
  have l3:(encPs (l.drop B)).length = l.length - B:=by simp
  have hgl:∀ k,k < l.length → (encPs l)[k]? = some (encP (nth l k)):=fun k hk=>encPs_get hk
  clear hat
  generalize encPs (l.take B) = A at *
  generalize encPs (l.drop B) = C at *
  generalize encPs l = M at *
  have tC:List.take (l.length - B) C = C:=List.take_of_length_le (by omega)
  have tA:List.take B A = A:=List.take_of_length_le (by omega)
  have tA1:List.take (B + 1) (A ++ [encP q]) = A ++ [encP q]:=List.take_of_length_le (by simp; omega)
  have tAC:List.take (B + 1 + (l.length - B)) (A ++ [encP q] ++ C) = A ++ [encP q] ++ C:=List.take_of_length_le (by simp; omega)
  have q6:(encP q).length = 6:=rfl
  have hfin:List.take (B + 1 + (l.length - B)) (A ++ (encP q :: C)) = A ++ (encP q :: C):=List.take_of_length_le (by simp; omega)
  refine zP hE Proofs.Tryz.func66 Proofs.Tryz.ntmps66 rfl rfl ?_
  simp (maxSteps:=999999) (disch:=first|exact {}|omega|simp) [zS]
  refine XL.by hE (ι:={ k:Nat // k ≤ B }) (fun k=>⟨[(0,.i (.sl M)),(3,.ptr 3 0 0),(5,.i (.int .i64 k.1))],[(3,⟨6,[encP q]⟩)]⟩)
   (fun k=>B - k.1) ⟨0,Nat.zero_le _⟩ ⟨by simp,by simp,by simp⟩ (by kernel_rfl) ?_
  rintro ⟨k,hk⟩
  by_cases hkB:k < B
  ·have hkl:k < l.length:=by omega
   have g:=hgl k hkl
   obtain ⟨g1,g2⟩:=List.getElem?_eq_some_iff.1 g
   have hlt:=hb1 k hkB
   simp (maxSteps:=999999) (disch:=first|exact {}|omega|simp) [zS,hkl,g,g2,l1]
   refine zC (hcm k hkl) ?_
   simp (maxSteps:=999999) (disch:=first|exact {}|omega|simp) [zS,hlt,hkl]
   (refine ⟨⟨k + 1,by omega⟩,by (simp; try omega), ?_⟩; constructor <;> (simp (maxSteps:=999999) (disch:=first|exact {}|omega|simp) [zS]) <;> (try omega))
  ·obtain rfl:k = B:=by omega
   by_cases hkl:k < l.length
   ·have g:=hgl k hkl
    obtain ⟨g1,g2⟩:=List.getElem?_eq_some_iff.1 g
    have hlt:=hb2 hkl
    have hn:¬ nth l k = q:=fun e=>hx (by rw [List.getElem?_eq_getElem hkl,← nth_eq hkl,e])
    have heq:=eqlP (nth l k) q
    simp (maxSteps:=999999) (disch:=first|exact {}|omega|simp) [zS,hkl,g,g2,l1]
    refine zC (hcm k hkl) ?_
    simp (maxSteps:=999999) (disch:=first|exact {}|omega|simp) [zS,hlt,hkl,g,g2,l1,heq,hn,hle,t1,t2,l2,l3,hm,hmA,hmB,tC,tA,tA1,tAC,q6]
    exact hfin.symm
   ·have hkl':¬ (k:Int) < l.length:=by omega
    simp (maxSteps:=999999) (disch:=first|exact {}|omega|simp) [zS,hkl,hkl',l1,hle,t1,t2,l2,l3,hm,hmA,hmB,tC,tA,tA1,tAC,q6]
    exact List.eq_nil_of_length_eq_zero (by omega)
end Go.Vai
namespace Go.Vai
open Pq
@[simp] theorem encSe_len (s:Se):(encSe s).length = 13:=rfl
theorem segL_len (ps:List Pt) (cs:List Cr):(segL ps cs).length = cs.length:=by simp [segL]
theorem segL_get {ps:List Pt} {cs:List Cr} {k:Nat} (h:k < cs.length):(segL ps cs)[k]? = some (segC ps (getK cs k)):=by
 rw [segL,List.getElem?_map,List.getElem?_eq_getElem h,(getK_get h).2]; rfl
theorem c72 (ps:List Pt) (cs:List Cr) (hcin:∀ c ∈ cs,Cin ps.length c) (h:(cs.length:Int) ≤ 1048576):PC E 72 [.agg (encPa ps cs)] [.own 13 ((segL ps cs).map encSe)]:=by
 have hget:∀ k,k < cs.length → ((segL ps cs).map encSe)[k]? = some (encSe (segC ps (getK cs k))):=fun k h=>by rw [List.getElem?_map,segL_get h]; rfl
 have hSl:((segL ps cs).map encSe).length = cs.length:=by simp [segL]
 have hA13:∀ x ∈ (segL ps cs).map encSe,x.length = 13:=fun x hx=>by
  obtain ⟨s,-,rfl⟩:=List.mem_map.1 hx; rfl
 generalize (segL ps cs).map encSe = S at *
 refine zP hE Proofs.Tryz.func72 Proofs.Tryz.ntmps72 rfl rfl ?_
 simp (maxSteps:=999999) (disch:=first|exact {}|omega|simp) [zS,encPa]
 refine XL.by hE (ι:={ k:Nat // k ≤ cs.length }) (fun k=>⟨[(1,.ptr 1 0 0),(3,.own 24 0 k.1),(7,.i (.sl (cs.map encK))),(8,.i (.int .i64 cs.length)),(9,.i (.int .i64 k.1))],[(1,⟨2,[encPa ps cs]⟩),(24,⟨13,S.take k.1⟩)]⟩)
  (fun k=>cs.length - k.1) ⟨0,Nat.zero_le _⟩ ⟨by simp,by simp [encPa],by simp⟩ (by kernel_rfl) ?_
 rintro ⟨k,hk⟩
 by_cases hlt:k < cs.length
 rotate_left
 ·obtain rfl:k = cs.length:=by omega
  have hT:S.take cs.length = S:=List.take_of_length_le (by omega)
  simp (maxSteps:=999999) (disch:=first|exact {}|omega|simp) [zS,hT]
 obtain ⟨hg,-⟩:=getK_get hlt
 obtain ⟨a0,ab,bn⟩:=hcin _ (getK_mem (cs:=cs) hlt)
 have hst:S.take (k + 1) = S.take k ++ [encSe (segC ps (getK cs k))]:=by
  rw [List.take_add_one,hget k hlt]; rfl
 have hAl:(S.take k).length = k:=by simp; omega
 have hA13':=eq_true (show ∀ x ∈ S.take k,x.length = 13 from fun x hx=>hA13 x (List.mem_of_mem_take hx))
 generalize S.take k = A at *
 have tA:List.take k A = A:=List.take_of_length_le (by omega)
 have hG:encSe (segC ps (getK cs k)) = encP (nth ps (getK cs k).a.toNat) ++ (encP (nth ps (getK cs k).b.toNat) ++ [.int .i64 (getK cs k).k]):=rfl
 rw [hG] at hst
 have f1:=c105 ps cs (getK cs k) a0 (by omega)
 have f2:=c106 ps cs (getK cs k) (by omega) bn
 generalize getK cs k = c at *
 generalize nth ps c.a.toNat = x at *
 generalize nth ps c.b.toNat = y at *
 simp (maxSteps:=999999) (disch:=first|exact {}|omega|simp) [zS,hlt,hg,encPa]
 refine zC (f1) ?_
 simp (maxSteps:=999999) (disch:=first|exact {}|omega|simp) [zS,encPa]
 refine zC (f2) ?_
 simp (maxSteps:=999999) (disch:=first|exact {}|omega|simp) [zS,encPa,encK,encP,hA13',hAl,tA]
 (refine ⟨⟨k + 1,by omega⟩,by (simp; try omega), ?_⟩; constructor <;> (simp (maxSteps:=999999) (disch:=first|exact {}|omega|simp) [zS,encPa,hst,hAl,tA,encP]) <;> (try omega))
theorem c78 (p q:Pt) (hp:vP p = true) (hq:vP q = true):PC E 78 [.agg (encP p),.agg (encP q)] [.i (.int .i64 (pcmp p q))]:=by
 refine zP hE Proofs.Tryz.func78 Proofs.Tryz.ntmps78 rfl rfl ?_
 simp (maxSteps:=999999) (disch:=first|exact {}|omega|simp) [zS]
 refine zC (c79 p q (vP_bound hp) (vP_bound hq) (by decide) (by decide)) ?_
 simp (maxSteps:=999999) (disch:=first|exact {}|omega|simp) [zS]
def insW (x:Pt):List Pt → List Pt
 | []=>[x]
 | y :: l=>if pcmp y x < 0 then y :: insW x l else x :: y :: l
def srtP (l:List Pt):List Pt:=l.foldr insW []
theorem insW_perm (x:Pt):∀ l:List Pt,(insW x l).Perm (x :: l)
 | []=>.refl _
 | y :: l=>by
  simp only [insW]
  split
  ·exact ((insW_perm x l).cons y).trans (.swap x y l)
  ·exact .refl _
theorem srtP_perm:∀ l:List Pt,(srtP l).Perm l
 | []=>.refl _
 | x :: l=>(insW_perm x (srtP l)).trans ((srtP_perm l).cons x)
theorem insW_ws {x:Pt} (hx:vP x = true):∀ {l:List Pt},(∀ p ∈ l,vP p = true) → WS pcmp l → WS pcmp (insW x l)
 | [],_,_=>by simp [insW,WS]
 | y :: l,hl,hs=>by
  obtain ⟨s1,s2⟩:=List.pairwise_cons.1 hs
  have hy:=hl y (by simp)
  have ih:=insW_ws hx (fun p hp=>hl p (by simp [hp])) s2
  simp only [insW]
  have hyx:=ptTO.anti x y hx hy
  split
  ·refine List.pairwise_cons.2 ⟨fun z hz=>?_,ih⟩
   rcases List.mem_cons.1 ((insW_perm x l).mem_iff.1 hz) with rfl | hz
   ·omega
   ·exact s1 z hz
  ·rename_i hc
   refine List.pairwise_cons.2 ⟨fun z hz=>?_,hs⟩
   rcases List.mem_cons.1 hz with rfl | hz
   ·exact hc
   ·exact ptTO.ntrans (hl z (by simp [hz])) hy hx (s1 z hz) hc
theorem srtP_ws:∀ {l:List Pt},(∀ p ∈ l,vP p = true) → WS pcmp (srtP l)
 | [],_=>by simp [srtP,WS]
 | x :: l,hl=>insW_ws (hl x (by simp)) (fun p hp=>hl p (by simp [(srtP_perm l).mem_iff.1 hp])) (srtP_ws fun p hp=>hl p (by simp [hp]))
theorem WS_one {α:Type} {c:α → α → Int} {P:α → Prop} (h:TO c P):∀ {l m:List α},(∀ x ∈ l,P x) → l.Perm m → WS c l → WS c m → l = m
 | [],m,_,hp,_,_=>(List.nil_perm.1 hp).symm
 | x :: l,m,hl,hp,h1,h2=>by
  cases m with
  | nil=>exact absurd (List.perm_nil.1 hp) (by simp)
  | cons y m =>
   obtain ⟨a1,a2⟩:=List.pairwise_cons.1 h1
   obtain ⟨b1,b2⟩:=List.pairwise_cons.1 h2
   have hPx:=hl x (by simp)
   have hPy:P y:=hl y (hp.mem_iff.2 (by simp))
   have hxy:x = y:=by
    rcases List.mem_cons.1 (hp.mem_iff.1 (List.mem_cons_self (a:=x) (l:=l))) with e | hx
    ·exact e
    ·rcases List.mem_cons.1 (hp.mem_iff.2 (List.mem_cons_self (a:=y) (l:=m))) with e | hy
     ·exact e.symm
     ·have q1:=b1 x hx
      have q2:=a1 y hy
      have q3:=h.anti x y hPx hPy
      exact h.eq x y hPx hPy (by omega)
   subst hxy
   rw [WS_one h (fun z hz=>hl z (by simp [hz])) (List.Perm.cons_inv hp) a2 b2]
def ptQ (p:Pt):List Int:=[p.x.a,p.x.b,p.x.k,p.y.a,p.y.b,p.y.k]
theorem sort_pts (g:FuncId) (eg:∀ args w,(callFunc g args).run E.P w = .ok (.enter g args) w) (hg:∀ p q:Pt,vP p = true → vP q = true → PC E g [.agg (encP p),.agg (encP q)] [.i (.int .i64 (pcmp p q))]) (l:List Pt) (hv:∀ p ∈ l,vP p = true) (hl:l.length < 4611686018427387904) :
  PM E 77 [.sl ⟨6,encPs l⟩,.i (.i (.fn g []))] [⟨6,encPs (srtP l)⟩] []:=by
 refine PM_sortK (E:=E) (ρ:=sortP_ren) sortP (k:=6) Proofs.Tryz.isAgg85 Proofs.Tryz.sizeOf85 (by kernel_rfl) (by kernel_rfl) ptQ (fun _=>rfl) (iv:=encP) (fun _=>rfl) pcmp hl eg (fun x hx y hy=>?_) (fun x hx=>?_) (fun x hx y hy z hz=>?_) (fun x hx y hy z hz=>?_) (srtP_perm l).length_eq (fun m h1 h2=>?_)
 ·exact hg x y (hv x hx) (hv y hy)
 ·rw [ptTO.self x (hv x hx)]; omega
 ·exact ptTO.trans x y z (hv x hx) (hv y hy) (hv z hz)
 ·exact ptTO.ntrans (hv x hx) (hv y hy) (hv z hz)
 ·exact WS_one ptTO (fun x hx=>hv x (h1.mem_iff.1 hx)) (h1.trans (srtP_perm l).symm) h2 (srtP_ws hv)
theorem srt_ordL {l:List Pt} (hv:∀ p ∈ l,vP p = true):cmpN (srtP l) (srtP l).length = ordL pcmp [] l:=cmpN_ordL hv (srtP_perm l) (srtP_ws hv)
theorem srtP_len (l:List Pt):(srtP l).length = l.length:=(srtP_perm l).length_eq
noncomputable def E3:Env:={ E with M:=77 :: 80 :: E.M }
theorem hE3:E3.Ok:=⟨fun t i h=>hE.ty t i h,hE.many⟩
@[simp] theorem E3t:E3.τ = E.τ:=rfl
@[simp] theorem E3k (t:TypeId):tkOf E3 t = tkOf E t:=rfl
@[simp] theorem E3p:E3.P = E.P:=rfl
@[simp] theorem E3n:E3.N = E.N:=rfl
@[simp] theorem E3g:E3.G = E.G:=rfl
theorem PC.of3 {f:FuncId} {a:List AV} {r:List RV} (h:PC E3 f a r):PC E f a r:=⟨h.goes,h.run⟩
theorem PC.to3 {f:FuncId} {a:List AV} {r:List RV} (h:PC E f a r):PC E3 f a r:=⟨h.goes,h.run⟩
theorem PM.to3 {f:FuncId} {a:List MA} {o:List Obj} {r:List RV} {p:Option (Nat × Nat × Nat)} (h:PM E f a o r p):PM E3 f a o r p:=⟨h.goes,h.lens,h.run⟩
end Go.Vai
namespace Go.Vai
open Pq
theorem encPs_app (l:List Pt) (m:List Pt):encPs (l ++ m) = encPs l ++ m.map encP:=by simp [encPs]
theorem take_cmpZ (l:List Pt):List.take (cmpN l l.length).length (encPs (cmpZ l)) = encPs (cmpN l l.length):=by
 unfold cmpZ
 rw [encPs_app,List.take_append_of_le_length (by simp)]
 exact List.take_of_length_le (by simp)
theorem c29 (ps:List Pt) (cs:List Cr) (l:Li) (h:(ps.length:Int) ≤ 1048576) (hc:(cs.length:Int) ≤ 1048576):PC E 29 [.agg (encPa ps cs),.agg (encLi l)] [.own 6 (encPs (onR l ps cs)),.i (.int .i64 (onC l ps cs))]:=by
 have hdC:onC l ps cs = if (vB ps cs && vL l) = true then (if (onN l ps cs cs.length).all vP = true then 0 else 2) else 1:=rfl
 have hdR:onR l ps cs = if onC l ps cs = 0 then ordL pcmp [] (onN l ps cs cs.length) else []:=rfl
 have lL:(encLi l).length = 4:=rfl
 have ep0:encPs ([]:List Pt) = []:=rfl
 refine PC.of3 ?_
 refine PC_start hE3 Proofs.Tryz.func29 rfl rfl Proofs.Tryz.ntmps29 (by kernel_rfl) (by kernel_rfl) (by simp) ?_
 simp (maxSteps:=999999) (disch:=first|exact {}|omega|simp) [zS,encPa,lL]
 refine zC ((c49 ps cs h hc).to3) ?_
 simp (maxSteps:=999999) (disch:=first|exact {}|omega|simp) [zS,encPa,lL]
 by_cases hv:vB ps cs = true
 rotate_left
 ·have e:vB ps cs = false:=by simpa using hv
  have n1:onC l ps cs = 1:=by rw [hdC,e]; rfl
  have n2:onR l ps cs = []:=by rw [hdR,n1]; rfl
  rw [n1,n2]
  simp (maxSteps:=999999) (disch:=first|exact {}|omega|simp) [zS,e,ep0]
 simp (maxSteps:=999999) (disch:=first|exact {}|omega|simp) [zS,hv,encPa,lL]
 refine zC ((c71 l).to3) ?_
 simp (maxSteps:=999999) (disch:=first|exact {}|omega|simp) [zS,lL]
 by_cases hl:vL l = true
 rotate_left
 ·have e:vL l = false:=by simpa using hl
  have n1:onC l ps cs = 1:=by rw [hdC,e,Bool.and_false]; rfl
  have n2:onR l ps cs = []:=by rw [hdR,n1]; rfl
  rw [n1,n2]
  simp (maxSteps:=999999) (disch:=first|exact {}|omega|simp) [zS,e,ep0]
 obtain ⟨hnm,hvp,g40,g70⟩:=vB_facts hv
 have hcin:=nmsOk_cin hnm
 have hlo:=vL_ok hl
 have hdir:∀ c ∈ cs,0 ≤ dirC ps c:=fun c hc=>by
  have hd:=(vB_more hv).1
  unfold dirsOk at hd
  rw [List.all_eq_true] at hd
  simpa using hd c hc
 have nl:NB 10 134217728 l.off:=by
  unfold vL at hl
  rw [Bool.and_eq_true] at hl
  exact vN_bound hl.2
 rw [hv,hl] at hdC
 simp only [Bool.and_self,if_true] at hdC
 simp (maxSteps:=999999) (disch:=first|exact {}|omega|simp) [zS,hl,encPa,lL]
 refine zC ((c72 ps cs hcin hc).to3) ?_
 have hSl:=segL_len ps cs
 have hget:=fun k h=>segL_get (ps:=ps) (cs:=cs) (k:=k) h
 have hSm:((segL ps cs).map encSe).length = cs.length:=by simp [segL]
 have tS:List.take cs.length ((segL ps cs).map encSe) = (segL ps cs).map encSe:=List.take_of_length_le (by omega)
 simp (maxSteps:=999999) (disch:=first|exact {}|omega|simp) [zS,hSl,tS,hSm]
 refine XL.by hE3 (ι:={ k:Nat // k ≤ cs.length }) (fun k=>⟨[(3,.ptr 3 0 0),(6,.own 6 0 (onN l ps cs k.1).length),(24,.i (.sl ((segL ps cs).map encSe))),(25,.i (.int .i64 cs.length)),(26,.i (.int .i64 k.1))],[(3,⟨4,[encLi l]⟩),(6,⟨6,encPs (onN l ps cs k.1)⟩)]⟩)
  (fun k=>cs.length - k.1) ⟨0,Nat.zero_le _⟩ ⟨by simp [onN,hSl,tS,hSm],by simp [onN,lL,ep0],by simp⟩ (by kernel_rfl) ?_
 rintro ⟨k,hk⟩
 by_cases hlt:k < cs.length
 rotate_left
 ·obtain rfl:k = cs.length:=by omega
  have hol:=onN_len l ps cs cs.length
  generalize onN l ps cs cs.length = L at *
  have tL:List.take L.length (encPs L) = encPs L:=List.take_of_length_le (by simp)
  simp (maxSteps:=999999) (disch:=first|exact {}|omega|simp) [zS,lL,tL,hSm,hSl]
  refine zC ((c76 L (by omega)).to3) ?_
  simp (maxSteps:=999999) (disch:=first|exact {}|omega|simp) [zS,lL,tL]
  by_cases ha:L.all vP = true
  rotate_left
  ·have e:L.all vP = false:=by simpa using ha
   rw [if_neg ha] at hdC
   have n2:onR l ps cs = []:=by rw [hdR,hdC]; rfl
   rw [hdC,n2]
   simp (maxSteps:=999999) (disch:=first|exact {}|omega|simp) [zS,e,ep0]
  rw [if_pos ha] at hdC
  have hvL:∀ p ∈ L,vP p = true:=List.all_eq_true.1 ha
  have n2:onR l ps cs = ordL pcmp [] L:=by rw [hdR,hdC]; rfl
  rw [hdC,n2,← srt_ordL hvL]
  have hs:=sort_pts 78 (fun args w=>Go.Proofs.enters_of Proofs.Tryz.func78 (by kernel_rfl) rfl args w) (fun p q hp hq=>c78 p q hp hq) L hvL (by omega)
  have hcp:=c80 (srtP L) (by rw [srtP_len]; omega)
  have hsl:=srtP_len L
  have tZ:=take_cmpZ (srtP L)
  have hzl:=encPs_zlen (srtP L)
  have hcl:=cmpN_len (srtP L) (srtP L).length
  have hS2:(encPs (srtP L)).length = L.length:=by simp [hsl]
  simp (maxSteps:=999999) (disch:=first|exact {}|omega|simp) [zS,ha,lL,tL]
  refine MutK.of (hs.to3) (by simp) (by simp) (by simp [hS2]) (by simp) (by simp) ?_
  simp (maxSteps:=999999) (disch:=first|exact {}|omega|simp) [zS,hS2]
  refine PartK.of (hcp.to3) (by simp [hS2,hsl]) (by simp [hS2,hsl]) (by simp) (by simp) ?_
  simp (maxSteps:=999999) (disch:=first|exact {}|omega|simp) [zS,tZ,hzl]
 obtain ⟨hgk,-⟩:=getK_get hlt
 obtain ⟨a0,ab,bn⟩:=hcin _ (getK_mem (cs:=cs) hlt)
 have hd:=hdir _ (getK_mem (cs:=cs) hlt)
 have hg:((segL ps cs).map encSe)[k]? = some (encSe (segC ps (getK cs k))):=by rw [List.getElem?_map,hget k hlt]; rfl
 have hG:encSe (segC ps (getK cs k)) = encP (pI ps (getK cs k).a) ++ (encP (pI ps (getK cs k).b) ++ [.int .i64 (getK cs k).k]):=rfl
 have vx:vP (pI ps (getK cs k).a) = true:=hvp _ (nth_mem (by omega))
 have vy:vP (pI ps (getK cs k).b) = true:=hvp _ (nth_mem (by omega))
 have hst:onN l ps cs (k + 1) = onN l ps cs k ++ segI l (pI ps (getK cs k).a) (pI ps (getK cs k).b):=rfl
 have hol:=onN_len l ps cs k
 unfold dirC at hd
 rw [hG] at hg
 generalize pI ps (getK cs k).a = x at *
 generalize pI ps (getK cs k).b = y at *
 generalize (getK cs k).k = kd at *
 have bx:=vP_bound vx
 have by_:=vP_bound vy
 have c1:=cside l x bx nl (by decide) (by decide) hlo.d0 hlo.d1
 have c2:=cside l y by_ nl (by decide) (by decide) hlo.d0 hlo.d1
 have c3:=c74 x y bx by_ (by decide) (by decide) hd
 have r1:=sd_range l x
 have r2:=sd_range l y
 have w3:=mul_sd r1 r2
 have hne:sd l x * sd l y < 0 → (sideL x y).dir ≠ l.dir:=fun hlt0 e=>by
  have:=par_same hlo bx.pk by_.pk hd e
  rw [this] at hlt0
  rcases r2 with h | h | h <;> rw [h] at hlt0 <;> revert hlt0 <;> decide
 have c4:=fun h=>c75 (sideL x y) l (side_NB (q:=y) bx) (nl.mono (by decide)) (by decide) (by decide) (sideL_dir x y).1 (sideL_dir x y).2 hlo.d0 hlo.d1 (hne h)
 have hI:segI l x y = (if sd l x = 0 then [x] else []) ++ ((if sd l y = 0 then [y] else []) ++ if sd l x * sd l y < 0 then [meetP (sideL x y) l] else []):=rfl
 rw [hI] at hst
 clear hI hne
 generalize hA:sd l x = A at *
 generalize hB:sd l y = B at *
 generalize hm:meetP (sideL x y) l = mt at *
 generalize sideL x y = sl at *
 generalize hO:onN l ps cs k = O at *
 generalize hO':onN l ps cs (k + 1) = O' at *
 obtain ⟨hg1,hg2⟩:=List.getElem?_eq_some_iff.1 hg
 generalize (segL ps cs).map encSe = SM at *
 have tO:List.take O.length (encPs O) = encPs O:=List.take_of_length_le (by simp)
 have l6:∀ p:Pt,(encP p).length = 6:=fun _=>rfl
 have l4:∀ m:Li,(encLi m).length = 4:=fun _=>rfl
 have mO:=eq_true (mem_encPs O)
 simp (maxSteps:=999999) (disch:=first|exact {}|omega|simp) [zS,hlt,hg,hg2,hSm,lL,encP,encN]
 refine zC (c1.to3) ?_
 simp (maxSteps:=999999) (disch:=first|exact {}|omega|simp) [zS,encP,encN,lL]
 refine zC (c2.to3) ?_
 simp (maxSteps:=999999) (disch:=first|exact {}|omega|simp) [zS,encP,encN,lL]
 by_cases z1:A = 0
 ·subst z1
  by_cases z2:B = 0
  ·subst z2
   have hs2:encPs O' = encPs O ++ [encP x,encP y]:=by rw [hst]; simp [encPs]
   have hs3:O'.length = O.length + 2:=by rw [hst]; simp
   have tO1:List.take (O.length + 1) (encPs O ++ [encP x]) = encPs O ++ [encP x]:=List.take_of_length_le (by simp)
   simp only [encP] at tO1
   simp (maxSteps:=999999) (disch:=first|exact {}|omega|simp) [zS,encP,tO,tO1,lL,mem_encPs]
   (refine ⟨⟨k + 1,by omega⟩,by (simp; try omega), ?_⟩; constructor <;> (simp (maxSteps:=999999) (disch:=first|exact {}|omega|simp) [zS,hO',hs2,hs3,tO,encP]) <;> (try omega))
  ·have hs2:encPs O' = encPs O ++ [encP x]:=by rw [hst,if_neg z2]; simp [encPs]
   have hs3:O'.length = O.length + 1:=by rw [hst,if_neg z2]; simp
   simp (maxSteps:=999999) (disch:=first|exact {}|omega|simp) [zS,z2,encP,tO,lL,mem_encPs]
   (refine ⟨⟨k + 1,by omega⟩,by (simp; try omega), ?_⟩; constructor <;> (simp (maxSteps:=999999) (disch:=first|exact {}|omega|simp) [zS,hO',hs2,hs3,tO,encP]) <;> (try omega))
 ·by_cases z2:B = 0
  ·subst z2
   have hs2:encPs O' = encPs O ++ [encP y]:=by rw [hst,if_neg z1]; simp [encPs]
   have hs3:O'.length = O.length + 1:=by rw [hst,if_neg z1]; simp
   simp (maxSteps:=999999) (disch:=first|exact {}|omega|simp) [zS,z1,encP,tO,lL,mem_encPs]
   (refine ⟨⟨k + 1,by omega⟩,by (simp; try omega), ?_⟩; constructor <;> (simp (maxSteps:=999999) (disch:=first|exact {}|omega|simp) [zS,hO',hs2,hs3,tO,encP]) <;> (try omega))
  ·by_cases z3:A * B < 0
   ·have hs2:encPs O' = encPs O ++ [encP mt]:=by rw [hst,if_neg z1,if_neg z2,if_pos z3]; simp [encPs]
    have hs3:O'.length = O.length + 1:=by rw [hst,if_neg z1,if_neg z2,if_pos z3]; simp
    simp (maxSteps:=999999) (disch:=first|exact {}|omega|simp) [zS,z1,z2,z3,w3,encP,encN,tO,lL,mem_encPs]
    refine zC (c3.to3) ?_
    simp (maxSteps:=999999) (disch:=first|exact {}|omega|simp) [zS,l4,lL]
    refine zC ((c4 z3).to3) ?_
    simp (maxSteps:=999999) (disch:=first|exact {}|omega|simp) [zS,encP,encN,tO,lL,mem_encPs]
    (refine ⟨⟨k + 1,by omega⟩,by (simp; try omega), ?_⟩; constructor <;> (simp (maxSteps:=999999) (disch:=first|exact {}|omega|simp) [zS,hO',hs2,hs3,tO,encP]) <;> (try omega))
   ·have hs2:O' = O:=by rw [hst,if_neg z1,if_neg z2,if_neg z3]; simp
    simp (maxSteps:=999999) (disch:=first|exact {}|omega|simp) [zS,z1,z2,z3,w3,encP,tO,lL,mem_encPs]
    (refine ⟨⟨k + 1,by omega⟩,by (simp; try omega), ?_⟩; constructor <;> (simp (maxSteps:=999999) (disch:=first|exact {}|omega|simp) [zS,hO',hs2,tO]) <;> (try omega))
end Go.Vai
namespace Go.Vai
open Pq
theorem flat_Li (l:Li):flatC (encLi l):=by intro x hx; simp [encLi] at hx; rcases hx with rfl | rfl | rfl | rfl <;> rfl
@[simp] theorem flat_Li' (l:Li):flatC (encLi l) = True:=eq_true (flat_Li l)
theorem nok_low {x:Nu} (h:low x = x):nok x = vN x:=by unfold nok; rw [h]
theorem c67 (p:Pt) (hx:p.x.i64) (hy:p.y.i64) (kx:0 ≤ p.x.k) (ky:0 ≤ p.y.k) (lx:low p.x = p.x) (ly:low p.y = p.y) :
  PC E 67 [.agg (encP p)] [.agg (encP (if vP p = true then p else ⟨⟨0,0,0⟩,⟨0,0,0⟩⟩)),.i (.bool (vP p))]:=by
 have e1:=c131 p.x hx kx
 have e2:=c131 p.y hy ky
 have hd:vP p = (vN p.x && vN p.y):=rfl
 have n1:nnum p.x = if nok p.x = true then p.x else ⟨0,0,0⟩:=by unfold nnum; rw [lx]
 have n2:nnum p.y = if nok p.y = true then p.y else ⟨0,0,0⟩:=by unfold nnum; rw [ly]
 rw [nok_low lx] at e1 n1
 rw [nok_low ly] at e2 n2
 generalize vN p.x = b1 at *
 generalize vN p.y = b2 at *
 rw [hd]
 refine zP hE Proofs.Tryz.func67 Proofs.Tryz.ntmps67 rfl rfl ?_
 simp (maxSteps:=999999) (disch:=first|exact {}|omega|simp) [zS,encP]
 refine zC (e1) ?_
 simp (maxSteps:=999999) (disch:=first|exact {}|omega|simp) [zS,encN]
 refine zC (e2) ?_
 cases b1
 ·simp (maxSteps:=999999) (disch:=first|exact {}|omega|simp) [zS,encP,encN,n1]
 ·cases b2
  ·simp (maxSteps:=999999) (disch:=first|exact {}|omega|simp) [zS,encP,encN,n1,n2]
  ·simp (maxSteps:=999999) (disch:=first|exact {}|omega|simp) [zS,encP,encN,n1,n2]
theorem c27 (ps:List Pt) (cs:List Cr) (l:Li) (h:(ps.length:Int) ≤ 1048576) (hc:(cs.length:Int) ≤ 1048576):PC E 27 [.agg (encPa ps cs),.agg (encLi l)] [.i (.sl (encPs (onR l ps cs))),.i (.int .i64 (onC l ps cs))]:=by
 have hdC:onC l ps cs = if (vB ps cs && vL l) = true then (if (onN l ps cs cs.length).all vP = true then 0 else 2) else 1:=rfl
 have hdR:onR l ps cs = if onC l ps cs = 0 then ordL pcmp [] (onN l ps cs cs.length) else []:=rfl
 have lL:∀ m:Li,(encLi m).length = 4:=fun _=>rfl
 have ep0:encPs ([]:List Pt) = []:=rfl
 refine zP hE Proofs.Tryz.func27 Proofs.Tryz.ntmps27 rfl rfl ?_
 simp (maxSteps:=999999) (disch:=first|exact {}|omega|simp) [zS,encPa,lL]
 refine zC (c44 ps cs h hc) ?_
 simp (maxSteps:=999999) (disch:=first|exact {}|omega|simp) [zS,encPa,lL]
 by_cases hv:vB ps cs = true
 rotate_left
 ·have e:vB ps cs = false:=by simpa using hv
  have n1:onC l ps cs = 1:=by rw [hdC,e]; rfl
  have n2:onR l ps cs = []:=by rw [hdR,n1]; rfl
  rw [n1,n2]
  simp (maxSteps:=999999) (disch:=first|exact {}|omega|simp) [zS,e,ep0]
 simp (maxSteps:=999999) (disch:=first|exact {}|omega|simp) [zS,hv,encPa,lL]
 refine zC (c62 l) ?_
 simp (maxSteps:=999999) (disch:=first|exact {}|omega|simp) [zS,lL]
 by_cases hl:vL l = true
 rotate_left
 ·have e:vL l = false:=by simpa using hl
  have n1:onC l ps cs = 1:=by rw [hdC,e,Bool.and_false]; rfl
  have n2:onR l ps cs = []:=by rw [hdR,n1]; rfl
  rw [n1,n2]
  simp (maxSteps:=999999) (disch:=first|exact {}|omega|simp) [zS,e,ep0]
 obtain ⟨hnm,hvp,g40,g70⟩:=vB_facts hv
 have hcin:=nmsOk_cin hnm
 have hlo:=vL_ok hl
 have hdir:∀ c ∈ cs,0 ≤ dirC ps c:=fun c hc=>by
  have hd:=(vB_more hv).1
  unfold dirsOk at hd
  rw [List.all_eq_true] at hd
  simpa using hd c hc
 have nl:NB 10 134217728 l.off:=by
  unfold vL at hl
  rw [Bool.and_eq_true] at hl
  exact vN_bound hl.2
 rw [hv,hl] at hdC
 simp only [Bool.and_self,if_true] at hdC
 simp (maxSteps:=999999) (disch:=first|exact {}|omega|simp) [zS,hl,encPa,lL]
 refine zC (c63 l) ?_
 simp (maxSteps:=999999) (disch:=first|exact {}|omega|simp) [zS,encPa,lL]
 refine XL.by hE (ι:={ k:Nat // k ≤ cs.length ∧ (onN l ps cs k).all vP = true }) (fun k=>⟨[(2,.ptr 2 0 0),(3,.ptr 3 0 0),(6,.i (.sl (encPs (ordL pcmp [] (onN l ps cs k.1))))),(7,.ptr 7 0 0),(8,.i (.int .i64 k.1))],[(2,⟨2,[encPa ps cs]⟩),(3,⟨4,[encLi l]⟩),(7,⟨4,[encLi l]⟩)]⟩)
  (fun k=>cs.length - k.1) ⟨0,Nat.zero_le _,rfl⟩ ⟨by simp [onN,ordL,ep0],by simp [encPa,lL],by simp⟩ (by kernel_rfl) ?_
 rintro ⟨k,hk,hall⟩
 by_cases hlt:k < cs.length
 rotate_left
 ·obtain rfl:k = cs.length:=by omega
  rw [if_pos hall] at hdC
  have n2:onR l ps cs = ordL pcmp [] (onN l ps cs cs.length):=by rw [hdR,hdC]; rfl
  rw [hdC,n2]
  simp (maxSteps:=999999) (disch:=first|exact {}|omega|simp) [zS,encPa]
 obtain ⟨hgk,-⟩:=getK_get hlt
 obtain ⟨a0,ab,bn⟩:=hcin _ (getK_mem (cs:=cs) hlt)
 have hd:=hdir _ (getK_mem (cs:=cs) hlt)
 have ga:=encPs_get (l:=ps) (k:=(getK cs k).a.toNat) (by omega)
 have gb:=encPs_get (l:=ps) (k:=(getK cs k).b.toNat) (by omega)
 have hn1:¬ (getK cs k).a < 0:=by omega
 have hn2:¬ (getK cs k).b < 0:=by omega
 have hl1:(getK cs k).a.toNat < ps.length:=by omega
 have hl2:(getK cs k).b.toNat < ps.length:=by omega
 have hl1':(getK cs k).a < ps.length:=by omega
 have hl2':(getK cs k).b < ps.length:=by omega
 have vx:vP (nth ps (getK cs k).a.toNat) = true:=hvp _ (nth_mem (by omega))
 have vy:vP (nth ps (getK cs k).b.toNat) = true:=hvp _ (nth_mem (by omega))
 have hst:onN l ps cs (k + 1) = onN l ps cs k ++ segI l (nth ps (getK cs k).a.toNat) (nth ps (getK cs k).b.toNat):=rfl
 have hol:=onN_len l ps cs k
 have hpre:=onN_pre l ps cs (m:=k + 1) (n:=cs.length) (by omega)
 replace hd:0 ≤ dirR (pminus (nth ps (getK cs k).b.toNat) (nth ps (getK cs k).a.toNat)):=hd
 generalize getK cs k = c at *
 generalize nth ps c.a.toNat = x at *
 generalize nth ps c.b.toNat = y at *
 have bx:=vP_bound vx
 have by_:=vP_bound vy
 have hsg:=c64 x y bx by_
 have hln:=c69 x y bx hd
 have c1:PC E 65 [.agg (encLi l),.agg (encP x)] [.i (.int .i64 (sd l x))]:=c65 l x bx nl (by decide) (by decide) hlo.d0 (by have:=hlo.d1; omega)
 have c2:PC E 65 [.agg (encLi l),.agg (encP y)] [.i (.int .i64 (sd l y))]:=c65 l y by_ nl (by decide) (by decide) hlo.d0 (by have:=hlo.d1; omega)
 have r1:=sd_range l x
 have r2:=sd_range l y
 have w3:=mul_sd r1 r2
 have d1:=(dirR_range (pminus y x)).2
 have t1:(dirR (pminus y x)).tmod 8 = dirR (pminus y x) % 8:=Int.tmod_eq_emod_of_nonneg hd
 have hS:segI l x y = if dirR (pminus y x) % 8 = l.dir then (if sd l x = 0 then [x,y] else []) else if 0 < sd l x * sd l y then [] else [meetP (sideL x y) l]:=seg_same hlo vx vy hd
 rw [hS] at hst
 have c4:=fun h:(sideL x y).dir ≠ l.dir=>c68 (sideL x y) l (side_NB (q:=y) bx) (nl.mono (by decide)) (by decide) (by decide) (sideL_dir x y).1 (sideL_dir x y).2 hlo.d0 hlo.d1 h
 have hmb:=fun h:(sideL x y).dir ≠ l.dir=>meet_PB (side_NB (q:=y) bx) (nl.mono (M':=MM) (by decide)) (sideL_dir x y).1 (sideL_dir x y).2 hlo.d0 hlo.d1 h
 have hml:=meet_low (l:=sideL x y) (m:=l) (sideL_ok bx.pk) hlo
 have hsd:(sideL x y).dir = dirR (pminus y x) % 8:=rfl
 have ea:encS x y = encP x ++ (encP y ++ [.int .i64 (dirR (pminus y x))]):=rfl
 rw [ea] at hln
 have hvO:∀ p ∈ onN l ps cs k,vP p = true:=List.all_eq_true.1 hall
 have hpl:=fun l' m h1 h2 h3=>ordL_spec (c:=pcmp) ptTO l' m h1 h2 h3
 obtain ⟨hs1,hs2⟩:=hpl (onN l ps cs k) [] hvO (by simp) (by simp [SS])
 have hvL:∀ p ∈ ordL pcmp [] (onN l ps cs k),vP p = true:=fun p hp=>hvO p (by simpa using (hs2 p).1 hp)
 have hLl:=ordL_len pcmp (onN l ps cs k) []
 have hap:=fun m'=>ordL_append pcmp [] (onN l ps cs k) m'
 have p1:∀ (q:Pt),vP q = true → PC E 66 [.i (.sl (encPs (ordL pcmp [] (onN l ps cs k)))),.agg (encP q)] [.i (.sl (encPs (putO pcmp q (ordL pcmp [] (onN l ps cs k)))))]:=fun q hq=>c66 _ q hvL hq (by simp at hLl; omega)
 have p2:PC E 66 [.i (.sl (encPs (putO pcmp x (ordL pcmp [] (onN l ps cs k))))),.agg (encP y)] [.i (.sl (encPs (putO pcmp y (putO pcmp x (ordL pcmp [] (onN l ps cs k))))))]:=c66 _ y (fun p hp=>by
  rcases (putO_mem x p _).1 hp with rfl | hp
  ·exact vx
  ·exact hvL p hp) vy (by have:=putO_len pcmp x (ordL pcmp [] (onN l ps cs k)); simp at hLl; omega)
 clear hpl hs1 hs2 hvL hLl hS
 by_cases hpar:dirR (pminus y x) % 8 = l.dir
 ·rw [if_pos hpar] at hst
  have hpar':(dirR (pminus y x)).tmod 8 = l.dir:=by rw [t1,hpar]
  clear c4 hmb hml hsd hln
  generalize dirR (pminus y x) = d at *
  simp (maxSteps:=999999) (disch:=first|exact {}|omega|simp) [zS,hlt,hgk,encK,encPa,ga,gb,hn1,hn2,hl1,hl2,hl1',hl2',lL]
  refine zC (hsg) ?_
  simp (maxSteps:=999999) (disch:=first|exact {}|omega|simp) [zS,ea,encP,encN,hpar',hpar,lL,encLi]
  refine zC (c1) ?_
  simp (maxSteps:=999999) (disch:=first|exact {}|omega|simp) [zS,encP,encN,lL]
  by_cases z:sd l x = 0
  ·rw [if_pos z] at hst
   have hnew:ordL pcmp [] (onN l ps cs (k + 1)) = putO pcmp y (putO pcmp x (ordL pcmp [] (onN l ps cs k))):=by rw [hst,hap]; rfl
   have hall':(onN l ps cs (k + 1)).all vP = true:=by rw [hst,List.all_append,hall]; simp [vx,vy]
   simp (maxSteps:=999999) (disch:=first|exact {}|omega|simp) [zS,z,hlt,hgk,encK,encPa,ga,gb,hn1,hn2,hl1,hl2,hl1',hl2',lL]
   refine zC (p1 x vx) ?_
   simp (maxSteps:=999999) (disch:=first|exact {}|omega|simp) [zS,hlt,hgk,encK,encPa,ga,gb,hn1,hn2,hl1,hl2,hl1',hl2',lL]
   refine zC (p2) ?_
   simp (maxSteps:=999999) (disch:=first|exact {}|omega|simp) [zS,encPa]
   (refine ⟨⟨k + 1,by omega,hall'⟩,by (simp; try omega), ?_⟩; constructor <;> (simp (maxSteps:=999999) (disch:=first|exact {}|omega|simp) [zS,hnew,encPa,lL,encLi]) <;> (try omega))
  ·rw [if_neg z,List.append_nil] at hst
   simp (maxSteps:=999999) (disch:=first|exact {}|omega|simp) [zS,z,encPa]
   (refine ⟨⟨k + 1,by omega,by rw [hst]; exact hall⟩,by (simp; try omega), ?_⟩; constructor <;> (simp (maxSteps:=999999) (disch:=first|exact {}|omega|simp) [zS,hst,encPa,lL,encLi]) <;> (try omega))
 ·rw [if_neg hpar] at hst
  have hpar':¬ (dirR (pminus y x)).tmod 8 = l.dir:=by rw [t1]; exact hpar
  have hne:(sideL x y).dir ≠ l.dir:=hpar
  have c4:=c4 hne
  have hmb:=hmb hne
  generalize hmt:meetP (sideL x y) l = mt at *
  have c5:=c67 mt (hmb.1.i64 (by decide) (by decide)) (hmb.2.i64 (by decide) (by decide)) hmb.1.k0 hmb.2.k0 hml.1 hml.2
  generalize dirR (pminus y x) = d at *
  simp (maxSteps:=999999) (disch:=first|exact {}|omega|simp) [zS,hlt,hgk,encK,encPa,ga,gb,hn1,hn2,hl1,hl2,hl1',hl2',lL]
  refine zC (hsg) ?_
  simp (maxSteps:=999999) (disch:=first|exact {}|omega|simp) [zS,ea,encP,encN,hpar',hpar,lL,encLi]
  refine zC (c1) ?_
  simp (maxSteps:=999999) (disch:=first|exact {}|omega|simp) [zS,encP,encN,lL]
  refine zC (c2) ?_
  simp (maxSteps:=999999) (disch:=first|exact {}|omega|simp) [zS,w3]
  by_cases z:0 < sd l x * sd l y
  ·rw [if_pos z,List.append_nil] at hst
   simp (maxSteps:=999999) (disch:=first|exact {}|omega|simp) [zS,z,encPa]
   (refine ⟨⟨k + 1,by omega,by rw [hst]; exact hall⟩,by (simp; try omega), ?_⟩; constructor <;> (simp (maxSteps:=999999) (disch:=first|exact {}|omega|simp) [zS,hst,encPa,lL,encLi]) <;> (try omega))
  ·rw [if_neg z] at hst
   simp (maxSteps:=999999) (disch:=first|exact {}|omega|simp) [zS,z]
   refine zC (hln) ?_
   simp (maxSteps:=999999) (disch:=first|exact {}|omega|simp) [zS,lL,encLi]
   refine zC (c4) ?_
   simp (maxSteps:=999999) (disch:=first|exact {}|omega|simp) [zS]
   refine zC (c5) ?_
   by_cases hvm:vP mt = true
   ·have hnew:ordL pcmp [] (onN l ps cs (k + 1)) = putO pcmp mt (ordL pcmp [] (onN l ps cs k)):=by rw [hst,hap]; rfl
    have hall':(onN l ps cs (k + 1)).all vP = true:=by rw [hst,List.all_append,hall]; simp [hvm]
    simp (maxSteps:=999999) (disch:=first|exact {}|omega|simp) [zS,hvm]
    refine zC (p1 mt hvm) ?_
    simp (maxSteps:=999999) (disch:=first|exact {}|omega|simp) [zS,encPa]
    (refine ⟨⟨k + 1,by omega,hall'⟩,by (simp; try omega), ?_⟩; constructor <;> (simp (maxSteps:=999999) (disch:=first|exact {}|omega|simp) [zS,hnew,encPa,lL,encLi]) <;> (try omega))
   ·have e:vP mt = false:=by simpa using hvm
    have hno:(onN l ps cs cs.length).all vP = false:=by
     rw [List.all_eq_false]
     exact ⟨mt,hpre mt (by rw [hst]; simp),by rw [e]; simp⟩
    rw [hno] at hdC
    have n1:onC l ps cs = 2:=by simpa using hdC
    have n2:onR l ps cs = []:=by rw [hdR,n1]; rfl
    rw [n1,n2]
    simp (maxSteps:=999999) (disch:=first|exact {}|omega|simp) [zS,e,ep0]
end Go.Vai
