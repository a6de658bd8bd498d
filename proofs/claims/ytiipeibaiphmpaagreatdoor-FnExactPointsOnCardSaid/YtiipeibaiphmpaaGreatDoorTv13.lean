/- Texts of this claim: Zv13. -/
import Derived.Test.YtiipeibaiphmpaaGreatDoorTv12
set_option linter.unusedVariables false
set_option linter.unusedSimpArgs false
namespace Go.Vai
def mk1 (acc:List Nat) (o:Oper):Nat:=o.after.toList.foldl (fun s e=>if Region.binds .any e = true then s ||| (2 ^ e.on ||| acc.getD e.on 0) else s) 0
def masksGo:List Nat → List Oper → List Nat
 | acc,[]=>acc
 | acc,o :: os=>masksGo (acc ++ [mk1 acc o]) os
def masks (os:List Oper):List Nat:=masksGo [] os
def Closed (os:List Oper) (S:Nat → Prop):Prop:=∀ i o,os[i]? = some o → S i → ∀ e ∈ o.after.toList,Region.binds .any e = true → S e.on
theorem mk1_bit (acc:List Nat) (j:Nat):∀ (es:List Edge) (s:Nat),(es.foldl (fun s e=>if Region.binds .any e = true then s ||| (2 ^ e.on ||| acc.getD e.on 0) else s) s).testBit j = true →
  s.testBit j = true ∨ ∃ e ∈ es,Region.binds .any e = true ∧ (j = e.on ∨ (acc.getD e.on 0).testBit j = true)
 | [],s,h=>.inl h
 | e :: es,s,h=>by
  simp only [List.foldl_cons] at h
  rcases mk1_bit acc j es _ h with h | ⟨e',he',hb,hj⟩
  ·split at h
   ·rename_i hb
    rw [Nat.testBit_or,Nat.testBit_or] at h
    simp only [Bool.or_eq_true] at h
    rcases h with h | h | h
    ·exact .inl h
    ·refine .inr ⟨e,by simp,hb,.inl ?_⟩
     rw [Nat.testBit_two_pow] at h
     exact (of_decide_eq_true h).symm
    ·exact .inr ⟨e,by simp,hb,.inr h⟩
   ·exact .inl h
  ·exact .inr ⟨e',by simp [he'],hb,hj⟩
def GoodMasks (os:List Oper) (acc:List Nat):Prop:=∀ i S,Closed os S → S i → ∀ j,(acc.getD i 0).testBit j = true → S j
theorem masksGo_good (os:List Oper):∀ (rest:List Oper) (acc:List Nat),os.drop acc.length = rest → GoodMasks os acc → GoodMasks os (masksGo acc rest)
 | [],acc,_,h=>h
 | o :: rest,acc,hd,h=>by
  simp only [masksGo]
  have ho:os[acc.length]? = some o:=by
   have:=congrArg (fun l=>l[0]?) hd
   simpa using this
  refine masksGo_good os rest _ ?_ ?_
  ·have:=congrArg List.tail hd
   simpa [List.tail_drop] using this
  ·intro i S hS hi j hj
   by_cases hlt:i < acc.length
   ·refine h i S hS hi j ?_
    simpa [List.getD_eq_getElem?_getD,List.getElem?_append,hlt] using hj
   ·by_cases heq:i = acc.length
    ·subst heq
     have hj':(mk1 acc o).testBit j = true:=by simpa [List.getD_eq_getElem?_getD] using hj
     rcases mk1_bit acc j _ _ hj' with h0 | ⟨e,he,hb,hj2⟩
     ·simp at h0
     ·have hon:=hS acc.length o ho hi e he hb
      rcases hj2 with rfl | hj2
      ·exact hon
      ·exact h e.on S hS hon j hj2
    ·have:(acc ++ [mk1 acc o]).getD i 0 = 0:=by
      rw [List.getD_eq_getElem?_getD,List.getElem?_eq_none (by simp; omega)]; rfl
     rw [this] at hj; simp at hj
def opTmps (o:Oper):List Nat:=o.op.operands.toList.filterMap fun
 | .tmp t=>some t
 | _=>none
def seenD (seen:List Nat):Option Nat → Bool
 | some d=>seen.contains d
 | none=>false
def firstMutGo (M:List FuncId):List Nat → List Oper → Nat
 | _,[]=>0
 | seen,o :: os=>if (isMut M o.op || seenD seen o.dst) = true then 0 else firstMutGo M (opTmps o ++ seen) os + 1
def firstMut (M:List FuncId) (os:List Oper):Nat:=firstMutGo M [] os
def gdTmps (os:List Oper) (o:Oper):List Nat:=match o.guard with
 | some (j,_)=>match os[j]? with
  | some p=>p.dst.toList
  | none=>[]
 | none=>[]
def lateAt (os:List Oper) (j:Nat):Bool:=match os[j]? with
 | some p=>p.guard.isNone && lateOp p.op && (List.range os.length).all fun i=>decide (i ≤ j) || match os[i]? with
  | some o=>(o.after.toList.any fun e=>Region.binds .any e && e.on == j) || Oper.apart os.toArray p o
  | none=>true
 | none=>false
def isExt:Op → Bool
 | .extract _ _=>true
 | _=>false
def extAt (os:List Oper) (j:Nat):Bool:=match os[j]? with
 | some p=>isExt p.op
 | none=>false
def noSel (os:List Oper):Bool:=os.all fun o=>match o.op with
 | .select ..=>false
 | _=>true
def okDraw (M:List FuncId) (os:List Oper):Bool :=
 let ms:=masks os
 let m:=firstMut M os
 noSel os && (List.range os.length).all fun i=>match os[i]? with
  | none=>true
  | some o =>
   (o.after.toList.all fun e=>!Region.binds .any e || decide (e.on < i)) &&
   (if i < m then
    ((opTmps o ++ gdTmps os o).all fun t=>(List.range m).all fun j=>match os[j]? with
     | some p=>p.dst != some t || (decide (j < i) && (ms.getD i 0).testBit j)
     | none=>true) &&
    (match o.dst with
     | some d=>(List.range m).all fun j=>j == i || match os[j]? with
      | some p=>p.dst != some d
      | none=>true
     | none=>true)
   else (List.range i).all fun j=>(ms.getD i 0).testBit j || (decide (j < m) && lateAt os j) || (extAt os j && lateAt os j))
structure OkDraw (M:List FuncId) (os:List Oper):Prop where
 sel:noSel os = true
 edge:∀ i o,os[i]? = some o → ∀ e ∈ o.after.toList,Region.binds .any e = true → e.on < i
 names:∀ i o,os[i]? = some o → i < firstMut M os → ∀ t ∈ opTmps o ++ gdTmps os o,∀ j p,j < firstMut M os → os[j]? = some p → p.dst = some t → j < i ∧ ((masks os).getD i 0).testBit j = true
 dsts:∀ i o,os[i]? = some o → i < firstMut M os → ∀ d,o.dst = some d → ∀ j p,j < firstMut M os → os[j]? = some p → p.dst = some d → j = i
 rest:∀ i o,os[i]? = some o → firstMut M os ≤ i → ∀ j,j < i → ((masks os).getD i 0).testBit j = true ∨ (j < firstMut M os ∧ lateAt os j = true) ∨ (extAt os j = true ∧ lateAt os j = true)
theorem okDraw_spec {M:List FuncId} {os:List Oper} (h:okDraw M os = true):OkDraw M os:=by
 unfold okDraw at h
 simp only [Bool.and_eq_true] at h
 obtain ⟨hs,h⟩:=h
 have key:∀ i o,os[i]? = some o → _:=fun i o ho=>by
  have:=List.all_eq_true.1 h i (List.mem_range.2 (List.getElem?_eq_some_iff.1 ho).1)
  rw [ho] at this
  simp only [Bool.and_eq_true] at this
  exact this
 refine ⟨hs,fun i o ho e he hb=>?_,fun i o ho hi t ht j p hj hp hd=>?_,fun i o ho hi d hd j p hj hp hpd=>?_,fun i o ho hi j hj=>?_⟩
 ·have:=List.all_eq_true.1 (key i o ho).1 e he
  simpa [hb] using this
 ·have h2:=(key i o ho).2
  rw [if_pos hi] at h2
  simp only [Bool.and_eq_true] at h2
  have:=List.all_eq_true.1 (List.all_eq_true.1 h2.1 t ht) j (List.mem_range.2 hj)
  rw [hp] at this
  simpa [hd] using this
 ·have h2:=(key i o ho).2
  rw [if_pos hi] at h2
  simp only [Bool.and_eq_true] at h2
  have h3:=h2.2
  rw [hd] at h3
  have:=List.all_eq_true.1 h3 j (List.mem_range.2 hj)
  rw [hp] at this
  simpa [hpd] using this
 ·have h2:=(key i o ho).2
  rw [if_neg (by omega)] at h2
  have:=List.all_eq_true.1 h2 j (List.mem_range.2 hj)
  simpa only [Bool.or_eq_true,Bool.and_eq_true,decide_eq_true_eq,or_assoc] using this
abbrev Eff:=Option Nat × AV × List (Nat × Obj)
def effs (st:St) (l:List Eff):St:=l.foldl (fun s e=>s.eff e.1 e.2.1 e.2.2) st
structure StepOf (E:Env) (ops:Array Oper) (st:St) (o:Oper) (e:Eff):Prop where
 dst:e.1 = o.dst
 fresh:freshB st.H e.2.2 = true
 how:(guardA ops st.T o = some false ∧ e.2.1 = .tup [] ∧ e.2.2 = []) ∨ (guardA ops st.T o = some true ∧ QOK E st.T st.H o e.2.1 e.2.2 ∧ (lateMem o.op = true → qpure E st.T st.H o.op = some e.2.1 ∧ e.2.2 = []))
theorem XR_log {E:Env} (hE:E.Ok) {ops:Array Oper}:∀ (os:List Oper) (rest:List Oper) (st:St) (K:St → Prop),(∀ o ∈ os,isMut E.M o.op = false) → XR E ops (os ++ rest) st K →
  ∃ l:List Eff,l.length = os.length ∧ (∀ i o e,os[i]? = some o → l[i]? = some e → StepOf E ops (effs st (l.take i)) o e) ∧ XR E ops rest (effs st l) K
 | [],rest,st,K,_,h=>⟨[],rfl,by simp,h⟩
 | o :: os,rest,st,K,hm,h=>by
  simp only [List.cons_append,XR] at h
  split at h
  ·exact h.elim
  ·rename_i g hg
   have hq:isMut E.M o.op = false:=hm o (by simp)
   have next:∀ (e:Eff),StepOf E ops st o e → XR E ops (os ++ rest) (st.eff e.1 e.2.1 e.2.2) K →
     ∃ l:List Eff,l.length = (o :: os).length ∧ (∀ i o' e,(o :: os)[i]? = some o' → l[i]? = some e → StepOf E ops (effs st (l.take i)) o' e) ∧ XR E ops rest (effs st l) K:=by
    intro e he hX
    obtain ⟨l,h1,h2,h3⟩:=XR_log hE os rest _ K (fun o ho=>hm o (by simp [ho])) hX
    refine ⟨e :: l,by simp [h1],fun i o' e' ho he'=>?_,h3⟩
    cases i with
    | zero=>obtain rfl:=Option.some.inj ho; obtain rfl:=Option.some.inj he'; exact he
    | succ i=>simpa [effs] using h2 i o' e' (by simpa using ho) (by simpa using he')
   cases g with
   | false=>exact next (o.dst,.tup [],[]) ⟨rfl,rfl,.inl ⟨hg,rfl,rfl⟩⟩ (h.2 rfl)
   | true =>
    have hop:=h.1 rfl
    unfold opX at hop
    unfold isMut at hq
    simp only [Bool.or_eq_false_iff,Option.isSome_eq_false_iff,Option.isNone_iff_eq_none] at hq
    rw [hq.1.2] at hop
    simp only [hq.1.1,hq.2] at hop
    obtain ⟨v,frs,q1,q2,q3,q4⟩:=quietX_QOK hE hop
    exact next (o.dst,v,frs) ⟨rfl,q2,.inr ⟨hg,q1,q4⟩⟩ q3
theorem effs_append (st:St) (l l':List Eff):effs st (l ++ l') = effs (effs st l) l':=by simp [effs]
theorem look_effs_other (t:Nat):∀ (l:List Eff) (st:St),(∀ e ∈ l,e.1 ≠ some t) → look (effs st l).T t = look st.T t
 | [],st,_=>rfl
 | e :: l,st,h=>by
  show look (effs (st.eff e.1 e.2.1 e.2.2) l).T t = _
  rw [look_effs_other t l _ fun e' he'=>h e' (by simp [he'])]
  have:=h e (by simp)
  cases hd:e.1 with
  | none=>rfl
  | some d=>rw [hd] at this; simp only [St.eff,putT]; rw [look_cons,if_neg (fun h=>this (by rw [h]))]
theorem look_effs_H {id:Nat} {ob:Obj}:∀ (l:List Eff) (st:St),look (effs st l).H id = some ob → look st.H id = some ob ∨ ∃ (j:Nat) (e:Eff),l[j]? = some e ∧ look e.2.2 id = some ob
 | [],st,h=>.inl h
 | e :: l,st,h=>by
  rcases look_effs_H l _ h with h | ⟨j,e',hj,he⟩
  ·simp only [St.eff,look_append] at h
   split at h
   ·rename_i x hx
    obtain rfl:=Option.some.inj h
    exact .inr ⟨0,e,rfl,hx⟩
   ·exact .inl h
  ·exact .inr ⟨j + 1,e',hj,he⟩
theorem look_effs_stay {id:Nat} {ob:Obj}:∀ (l:List Eff) (st:St),look st.H id = some ob → (∀ e ∈ l,look e.2.2 id = none) → look (effs st l).H id = some ob
 | [],st,h,_=>h
 | e :: l,st,h,hn=>by
  refine look_effs_stay l _ ?_ fun e' he'=>hn e' (by simp [he'])
  simp only [St.eff,look_append,hn e (by simp)]
  exact h
structure LogOk (st0:St) (l:List Eff):Prop where
 fresh:∀ (i:Nat) (e:Eff),l[i]? = some e → freshB (effs st0 (l.take i)).H e.2.2 = true
 dsts:∀ (i j:Nat) (e e':Eff) (d:Nat),l[i]? = some e → l[j]? = some e' → e.1 = some d → e'.1 = some d → i = j
theorem LogOk.new {st0:St} {l:List Eff} (h:LogOk st0 l) {i:Nat} {e:Eff} (hi:l[i]? = some e) {id:Nat} (hid:(look e.2.2 id).isSome = true) :
  look st0.H id = none ∧ ∀ j e',l[j]? = some e' → (look e'.2.2 id).isSome = true → j = i:=by
 have stays:∀ (k:Nat) (ob:Obj) (base:Nat),base ≤ k → look (effs st0 (l.take base)).H id = some ob → k ≤ l.length → (look (effs st0 (l.take k)).H id).isSome = true:=by
  intro k ob base hbk hb hkl
  induction k with
  | zero =>
   obtain rfl:base = 0:=by omega
   rw [hb]; rfl
  | succ k ih =>
   by_cases hbe:base = k + 1
   ·subst hbe; rw [hb]; rfl
   ·have:=ih (by omega) (by omega)
    have hk:k < l.length:=by omega
    rw [List.take_succ_eq_append_getElem hk,effs_append]
    show (look ((effs st0 (l.take k)).eff _ _ _).H id).isSome = true
    simp only [St.eff,look_append]
    split
    ·rfl
    ·exact this
 have hil:=(List.getElem?_eq_some_iff.1 hi).1
 have hn:=(freshB_spec (h.fresh i e hi) id hid).1
 have made:∀ (j:Nat) (e':Eff),l[j]? = some e' → (look e'.2.2 id).isSome = true → ∃ ob,look (effs st0 (l.take (j + 1))).H id = some ob:=by
  intro j e' hj hid'
  have hjl:=(List.getElem?_eq_some_iff.1 hj).1
  obtain ⟨ob,hob⟩:=Option.isSome_iff_exists.1 hid'
  refine ⟨ob, ?_⟩
  rw [List.take_succ_eq_append_getElem hjl,effs_append]
  show look ((effs st0 (l.take j)).eff _ _ _).H id = _
  have:l[j] = e':=(List.getElem?_eq_some_iff.1 hj).2
  simp only [St.eff,look_append,this,hob]
 refine ⟨?_,fun j e' hj hid'=>?_⟩
 ·cases hq:look st0.H id with
  | none=>rfl
  | some ob=>have:=stays i ob 0 (by omega) (by simpa [effs] using hq) (by omega); rw [hn] at this; simp at this
 ·rcases Nat.lt_trichotomy j i with hlt | heq | hlt
  ·obtain ⟨ob,hob⟩:=made j e' hj hid'
   have:=stays i ob (j + 1) (by omega) hob (by omega)
   rw [hn] at this; simp at this
  ·exact heq
  ·have hn':=(freshB_spec (h.fresh j e' hj) id hid').1
   obtain ⟨ob,hob⟩:=made i e hi hid
   have:=stays j ob (i + 1) (by omega) hob (by have:=(List.getElem?_eq_some_iff.1 hj).1; omega)
   rw [hn'] at this; simp at this
def pick (l:List Eff) (σ:List Nat):List Eff:=σ.filterMap (l[·]?)
theorem mem_pick {l:List Eff} {σ:List Nat} {e:Eff}:e ∈ pick l σ ↔ ∃ i ∈ σ,l[i]? = some e:=by simp [pick,List.mem_filterMap]
theorem look_pick_T {st0:St} {l:List Eff} (h:LogOk st0 l) {t:Nat} {i:Nat} {e:Eff} (hi:l[i]? = some e) (ht:e.1 = some t):∀ (σ:List Nat),i ∈ σ → look (effs st0 (pick l σ)).T t = some e.2.1:=by
 intro σ
 suffices ∀ (σ:List Nat) (st:St),(i ∈ σ ∨ look st.T t = some e.2.1) → look (effs st (pick l σ)).T t = some e.2.1 from fun hm=>this σ st0 (.inl hm)
 intro σ
 induction σ with
 | nil =>
  intro st h; rcases h with h | h
  ·simp at h
  ·exact h
 | cons k σ ih =>
  intro st hh
  cases hk:l[k]? with
  | none =>
   have:pick l (k :: σ) = pick l σ:=by simp [pick,hk]
   rw [this]
   refine ih st ?_
   rcases hh with hh | hh
   ·rcases List.mem_cons.1 hh with rfl | hh
    ·rw [hi] at hk; simp at hk
    ·exact .inl hh
   ·exact .inr hh
  | some e' =>
   have:pick l (k :: σ) = e' :: pick l σ:=by simp [pick,hk]
   rw [this]
   show look (effs (st.eff e'.1 e'.2.1 e'.2.2) (pick l σ)).T t = _
   refine ih _ ?_
   by_cases hki:k = i
   ·subst hki
    rw [hi] at hk
    obtain rfl:=Option.some.inj hk
    right
    rw [ht]; simp only [St.eff,putT]; rw [look_cons,if_pos rfl]
   ·rcases hh with hh | hh
    ·rcases List.mem_cons.1 hh with rfl | hh
     ·exact absurd rfl hki
     ·exact .inl hh
    ·right
     cases hd:e'.1 with
     | none=>exact hh
     | some d =>
      simp only [St.eff,putT]
      rw [look_cons,if_neg]
      ·exact hh
      ·intro hdt; subst hdt
       exact hki (h.dsts k i e' e d hk hi hd ht)
theorem look_effs_made {id:Nat} {ob:Obj} (l1 l2:List Eff) (st:St) (e:Eff) (he:look e.2.2 id = some ob) (h2:∀ e' ∈ l2,look e'.2.2 id = none):look (effs st (l1 ++ e :: l2)).H id = some ob:=by
 rw [effs_append]
 show look (effs ((effs st l1).eff e.1 e.2.1 e.2.2) l2).H id = _
 refine look_effs_stay l2 _ ?_ h2
 simp only [St.eff,look_append,he]
theorem pick_H {st0:St} {l:List Eff} (h:LogOk st0 l) {σ:List Nat} (hσ:σ.Nodup) {id:Nat} {ob:Obj} :
  look (effs st0 (pick l σ)).H id = some ob ↔ look st0.H id = some ob ∨ ∃ j ∈ σ,∃ e,l[j]? = some e ∧ look e.2.2 id = some ob:=by
 constructor
 ·intro hh
  rcases look_effs_H _ _ hh with hh | ⟨j,e,hj,he⟩
  ·exact .inl hh
  ·obtain ⟨k,hk,hke⟩:=mem_pick.1 (List.mem_of_getElem? hj)
   exact .inr ⟨k,hk,e,hke,he⟩
 ·rintro (hh | ⟨j,hj,e,hje,he⟩)
  ·refine look_effs_stay _ _ hh fun e he=>?_
   obtain ⟨k,hk,hke⟩:=mem_pick.1 he
   cases hq:look e.2.2 id with
   | none=>rfl
   | some x=>have:=(h.new hke (by rw [hq]; rfl:(look e.2.2 id).isSome = true)).1; rw [hh] at this; simp at this
  ·obtain ⟨s1,s2,rfl⟩:=List.append_of_mem hj
   have hp:pick l (s1 ++ j :: s2) = pick l s1 ++ e :: pick l s2:=by simp [pick,hje]
   rw [hp]
   refine look_effs_made _ _ st0 e he fun e' he'=>?_
   obtain ⟨k,hk,hke⟩:=mem_pick.1 he'
   cases hq:look e'.2.2 id with
   | none=>rfl
   | some x =>
    have:=(h.new hje (by rw [he]; rfl:(look e.2.2 id).isSome = true)).2 k e' hke (by rw [hq]; rfl)
    subst this
    rw [List.nodup_append] at hσ
    exact absurd hk (List.nodup_cons.1 hσ.2.1).1
theorem pick_range (l:List Eff):∀ k,k ≤ l.length → pick l (List.range k) = l.take k
 | 0,_=>by simp [pick]
 | k + 1,h=>by
  have hk:k < l.length:=by omega
  have:=pick_range l k (by omega)
  unfold pick at this ⊢
  rw [List.range_succ,List.filterMap_append,this,List.take_succ_eq_append_getElem hk]
  simp [hk]
theorem Fits.congr {w0:Base} {F0:Nat → Prop} {n:Nat} {st st':St} {a:Act} {w:World} (hT:∀ t v,look st'.T t = some v → look st.T t = some v) (hH:∀ id,look st'.H id = look st.H id)
  (h:Fits w0 F0 n st a w):Fits w0 F0 n st' a w:=by
 obtain ⟨F,ρ,hf⟩:=h
 refine ⟨F,ρ,⟨⟨hf.below,hf.defers,hf.size,hf.sub,hf.sup,hf.lt,fun t v hv=>hf.tmps t v (hT t v hv),⟨fun o ob L ho hL=>hf.heap.obj o ob L (hH o ▸ ho) hL,fun o ob ho hne=>hf.heap.sm o ob (hH o ▸ ho) hne,fun o o' ob ob' L L' ho ho'=>hf.heap.apart o o' ob ob' L L' (hH o ▸ ho) (hH o' ▸ ho')⟩⟩,fun o L hL=>by rw [hH]; exact hf.dom o L hL,fun o h7 ho=>hf.pin o h7 (by rwa [hH] at ho)⟩⟩
theorem pick_T {st0:St} {l:List Eff} (h:LogOk st0 l) {σ σ':List Nat} {t:Nat} {v:AV} (hh:look (effs st0 (pick l σ)).T t = some v) (hin:∀ j e,l[j]? = some e → e.1 = some t → j ∈ σ ∧ j ∈ σ'):look (effs st0 (pick l σ')).T t = some v:=by
 by_cases hex:∃ (j:Nat) (e:Eff),l[j]? = some e ∧ e.1 = some t
 ·obtain ⟨j,e,hj,he⟩:=hex
  obtain ⟨h1,h2⟩:=hin j e hj he
  rw [look_pick_T h hj he σ h1] at hh
  rw [look_pick_T h hj he σ' h2]; exact hh
 ·have hno:∀ (τ:List Nat) e,e ∈ pick l τ → e.1 ≠ some t:=by
   intro τ e he ht
   obtain ⟨k,-,hk⟩:=mem_pick.1 he
   exact hex ⟨k,e,hk,ht⟩
  rw [look_effs_other t _ _ (hno σ)] at hh
  rw [look_effs_other t _ _ (hno σ')]; exact hh
theorem sub_len:∀ (xs ys:List Nat),xs.Nodup → (∀ x ∈ xs,x ∈ ys) → xs.length ≤ ys.length
 | [],ys,_,_=>by simp
 | x :: xs,ys,hn,h=>by
  obtain ⟨h1,h2⟩:=List.nodup_cons.1 hn
  have:=sub_len xs (ys.erase x) h2 fun y hy=>(List.mem_erase_of_ne (fun (e:y = x)=>h1 (by rw [← e]; exact hy))).2 (h y (by simp [hy]))
  have hx:=h x (by simp)
  rw [List.length_erase_of_mem hx] at this
  have:=List.length_pos_of_mem hx
  simp; omega
theorem len_below {σ:List Nat} {m:Nat} (hn:σ.Nodup) (h:∀ i ∈ σ,i < m):σ.length ≤ m:=by
 have:=sub_len σ (List.range m) hn fun i hi=>List.mem_range.2 (h i hi)
 simpa using this
theorem all_below {σ:List Nat} {m:Nat} (hn:σ.Nodup) (h:∀ i ∈ σ,i < m) (hm:m ≤ σ.length) (i:Nat) (hi:i < m):i ∈ σ:=by
 by_cases hc:i ∈ σ
 ·exact hc
 ·have:=len_below (σ:=i :: σ) (m:=m) (List.nodup_cons.2 ⟨hc,hn⟩) (fun j hj=>by exact (List.mem_cons.1 hj).elim (fun e=>by rw [e]; exact hi) (h j))
  rw [List.length_cons] at this; omega
theorem getD_bool {A:Array Bool} {i:Nat} (h:i < A.size):A.getD i true = A.getD i false:=by simp [h]
def wpR (P:Program) (ops:Array Oper) (m:Nat) (Q:Exit → Act → World → Prop):Nat → Array Bool → Act → World → Prop
 | 0,listed,a,w=>Region.ready .any ops listed = [] ∧ Q .normal a w
 | fuel + 1,listed,a,w=>(Region.ready .any ops listed = [] → Q .normal a w) ∧
  ∀ i ∈ Region.ready .any ops listed,(i < m ∨ ∀ j,j < i → listed.getD j false = true) →
   wpOp P ops Q i (wpR P ops m Q fuel (listed.setIfInBounds i true)) a w ∧ (∀ o,ops[i]? = some o → (i < m ∨ isExt o.op = true) → o.guard = none → lateOp o.op = true → ∃ v,Yields P ops o v a)
theorem late_yields {E:Env} (hE:E.Ok) {F:Nat → Prop} {ρ:Locs} {T:List (Nat × AV)} {H:List (Nat × Obj)} {o:Oper} {a:Act} {w:World} (hp:Pre E F ρ T H o a w)
  {r:AV} (h:qpure E T H o.op = some r) (hl:lateOp o.op = true):∃ v,∀ w2,(execOp a.eval o).run E.P w2 = .ok (.value v) w2:=by
 cases hop:o.op <;> rw [hop] at h hl <;> simp only [lateOp] at hl <;> (try (simp at hl; done)) <;> simp only [qpure] at h
 case move x=>exact ⟨a.eval x,fun w2=>by unfold execOp; rw [hop]; rfl⟩
 case extract x ix =>
  split at h <;> (try (simp at h; done))
  rename_i v hv
  unfold extractA at h
  split at h <;> (try (simp at h; done))
  rename_i vs
  have hx:=hp.ev (x:=x) (by rw [hop]; simp [Op.operands]) hv
  obtain ⟨u,-,hu⟩:=extractA_run (E:=E) (ix:=ix) (r:=r) hx h
  generalize hax:a.eval x = av at hx hu
  cases hx with | tup _ cs hs hr =>
  have hix:ix < cs.size:=by rw [hs]; exact (List.getElem?_eq_some_iff.1 h).1
  refine ⟨cs[ix],fun w2=>?_⟩
  unfold execOp; rw [hop]; dsimp only; rw [hax]
  simp [Instr.extract,hix]
 case pick c x y =>
  split at h <;> (try (simp at h; done))
  rename_i t hc
  have hcv:=(hp.ev (x:=c) (by rw [hop]; simp [Op.operands]) hc).bool_inv
  cases t
  ·exact ⟨a.eval y,fun w2=>by unfold execOp; rw [hop]; simp [hcv,asBool]⟩
  ·exact ⟨a.eval x,fun w2=>by unfold execOp; rw [hop]; simp [hcv,asBool]⟩
 case unOp op t x =>
  split at h <;> (try (simp at h; done))
  rename_i v hv
  have hx:=hp.ev (x:=x) (by rw [hop]; simp [Op.operands]) hv
  unfold unA at h
  split at h <;> (try (simp at h; done))
  ·rename_i k n
   have:=hx.int_inv
   refine ⟨.int k (k.wrap (0 - n)),fun w2=>?_⟩
   unfold execOp; rw [hop]; simp [this,Op.unary,Op.intArith]
  ·rename_i b
   have:=hx.bool_inv
   refine ⟨.bool (!b),fun w2=>?_⟩
   unfold execOp; rw [hop]; simp [this,Op.unary]
 case convert s d x =>
  split at h <;> (try (simp at h; done))
  rename_i v hv
  have hx:=hp.ev (x:=x) (by rw [hop]; simp [Op.operands]) hv
  have h0:=h
  unfold convA at h0
  split at h0 <;> (try (simp at h0; done))
  split at h0 <;> (try (simp at h0; done))
  split at h0 <;> (try (simp at h0; done))
  rename_i k hk0 vv kk n
  have hv':=hx.int_inv
  obtain rfl:=Option.some.inj h0
  have key:∀ w2,(convert s d (a.eval x)).run E.P w2 = .ok (.int k (k.wrap n)) w2:=fun w2=>by
   have hx2:RepA F ρ w2 (.i (.int kk n)) (a.eval x):=by rw [hv']; exact .i _ _ (.int _ _)
   obtain ⟨u,h1,h2⟩:=convA_run hE hx2 h
   rw [h1.int_inv] at h2; exact h2
  refine ⟨.int k (k.wrap n),fun w2=>?_⟩
  unfold execOp; rw [hop]; exact value_of (key w2)
 case binOp op t x y yt =>
  have hne:(op = .eql ∨ op = .neq) → False:=by rintro (rfl | rfl) <;> simp at hl
  split at h <;> (try (simp at h; done))
  ·rename_i ca cb _ _
   exfalso
   cases op <;> simp [eqOp] at h <;> first | exact hne (.inl rfl) | exact hne (.inr rfl)
  ·exfalso
   unfold nilOp at h
   split at h
   ·cases op <;> simp at h <;> first | exact hne (.inl rfl) | exact hne (.inr rfl)
   ·cases op <;> simp at h <;> first | exact hne (.inl rfl) | exact hne (.inr rfl)
   ·simp at h
  ·rename_i va vb _ _ hva hvb
   obtain ⟨r',hr,rfl⟩:=Option.map_eq_some_iff.1 h
   have hx:=hp.ev (x:=x) (by rw [hop]; simp [Op.operands]) hva
   have hy:=hp.ev (x:=y) (by rw [hop]; simp [Op.operands]) hvb
   have flat:∀ w2,RepA F ρ w2 va (a.eval x) ∧ RepA F ρ w2 vb (a.eval y):=fun w2=>by
    have hr2:=hr
    unfold binI at hr2
    split at hr2 <;> (try (simp at hr2; done))
    ·rw [hx.int_inv,hy.int_inv]; exact ⟨.i _ _ (.int _ _),.i _ _ (.int _ _)⟩
    ·rw [hx.bool_inv,hy.bool_inv]; exact ⟨.i _ _ (.bool _),.i _ _ (.bool _)⟩
    ·rw [hx.str_inv,hy.str_inv]; exact ⟨.i _ _ (.str _),.i _ _ (.str _)⟩
   refine ⟨r'.toV,fun w2=>?_⟩
   obtain ⟨h1,-⟩:=binI_run (w:=w2) hE (x:=x) (y:=y) (flat w2).1 (flat w2).2 hr
   unfold execOp; rw [hop]; exact value_of h1
theorem least_not {p:Nat → Bool}:∀ (n:Nat),(∃ j,j < n ∧ p j = false) → ∃ j,j < n ∧ p j = false ∧ ∀ i,i < j → p i = true:=by
 intro n
 induction n with
 | zero=>rintro ⟨j,hj,-⟩; omega
 | succ n ih =>
  rintro ⟨j,hj,hp⟩
  by_cases h:∃ j,j < n ∧ p j = false
  ·obtain ⟨j,h1,h2,h3⟩:=ih h
   exact ⟨j,by omega,h2,h3⟩
  ·have hall:∀ i,i < n → p i = true:=fun i hi=>by
    cases hq:p i with
    | true=>rfl
    | false=>exact absurd ⟨i,hi,hq⟩ h
   refine ⟨j,hj,hp,fun i hi=>?_⟩
   rcases Nat.lt_or_ge i n with h1 | h1
   ·exact hall i h1
   ·omega
theorem wpOp_inv {P:Program} {ops:Array Oper} {Q:Exit → Act → World → Prop} {i:Nat} {o:Oper} {v:Value} {a:Act} {w:World} (hi:ops[i]? = some o) (hy:Yields P ops o v a) (hl:¬ LetsOut Q) {K:Act → World → Prop}
  (h:wpOp P ops Q i K a w):K (a.put o.dst v) w:=by
 unfold Go.wpOp at h
 simp only [hi] at h
 rcases hy with ⟨hw,hv⟩ | ⟨hw,rfl⟩
 ·rw [if_pos hw] at h
  rcases h with h | h
  ·unfold Oper.wp at h; rw [hv w] at h; exact h
  ·exact absurd h.2 hl
 ·rw [if_neg (by rw [hw]; simp)] at h; exact h
theorem wpAny_of_wpR {E:Env} {ops:Array Oper} (hok:OkDraw E.M ops.toList) {Q:Exit → Act → World → Prop} (hQ:∀ c a w,¬ Q (.panic c) a w) (hlet:¬ LetsOut Q) :
  ∀ (fuel:Nat) (listed:Array Bool) (a:Act) (w:World),listed.size = ops.size → Closed ops.toList (fun i=>listed.getD i false = true) →
   wpR E.P ops (firstMut E.M ops.toList) Q fuel listed a w → wpAny E.P .any ops Q fuel listed a w:=by
 have hgood:GoodMasks ops.toList (masks ops.toList):=masksGo_good ops.toList _ [] (by simp) fun i S _ _ j hj=>by simp at hj
 have hsel:∀ (j:Nat) (o:Oper) cs b,ops[j]? = some o → o.op ≠ .select cs b:=by
  intro j o cs b ho he
  have:=List.all_eq_true.1 hok.sel o (List.mem_of_getElem? (i:=j) (by simpa using ho))
  rw [he] at this; simp at this
 intro fuel
 induction fuel with
 | zero=>intro listed a w _ _ h; exact h
 | succ fuel ih =>
  intro listed a w hsz hcl h
  have hnext:∀ i o,ops[i]? = some o → i ∈ Region.ready .any ops listed → (listed.setIfInBounds i true).size = ops.size ∧ Closed ops.toList (fun j=>(listed.setIfInBounds i true).getD j false = true):=by
   intro i o ho hi
   obtain ⟨h1,o',ho',hpre⟩:=mem_ready.1 hi
   rw [ho] at ho'
   obtain rfl:=Option.some.inj ho'
   have hil:=(Array.getElem?_eq_some_iff.1 ho).1
   refine ⟨by simp [hsz],fun j oj hoj hj e he hb=>?_⟩
   simp only at hj ⊢
   by_cases hij:i = j
   ·subst hij
    have:oj = o:=by
     have h2:ops.toList[i]? = some o:=by simpa using ho
     rw [h2] at hoj; exact (Option.some.inj hoj).symm
    subst this
    exact getD_set_true (hpre e (by simpa using he) hb)
   ·rw [getD_set_ne false hij] at hj
    exact getD_set_true (hcl j oj hoj hj e he hb)
  refine ⟨h.1,fun i hi=>?_⟩
  obtain ⟨h1,o,ho,hpre⟩:=mem_ready.1 hi
  by_cases hq:i < firstMut E.M ops.toList ∨ ∀ j,j < i → listed.getD j false = true
  ·exact wpOp_mono (fun a' w' h'=>ih _ a' w' (hnext i o ho hi).1 (hnext i o ho hi).2 h') (h.2 i hi hq).1
  ·-- an operation of the rest that does not wait for one on slots: that one may go first
   simp only [not_or] at hq
   obtain ⟨hmi,hex⟩:=hq
   have hmi:firstMut E.M ops.toList ≤ i:=by omega
   obtain ⟨j0,hj0,hj0f,hmin⟩:=least_not (p:=fun j=>listed.getD j false) i (by
    refine Classical.byContradiction fun hno=>hex fun j hj=>?_
    cases hq:listed.getD j false with
    | true=>rfl
    | false=>exact absurd ⟨j,hj,hq⟩ hno)
   have hil:=(Array.getElem?_eq_some_iff.1 ho).1
   have hoL:ops.toList[i]? = some o:=by simpa using ho
   have hj0l:j0 < ops.size:=by omega
   have ho0:ops[j0]? = some ops[j0]:=Array.getElem?_eq_getElem hj0l
   have hS:Closed ops.toList (fun j=>listed.getD j false = true ∨ j = i):=by
    intro j o' ho' hj e he hb
    rcases hj with hj | rfl
    ·exact .inl (hcl j o' ho' hj e he hb)
    ·rw [hoL] at ho'
     obtain rfl:=Option.some.inj ho'
     exact .inl (hpre e (by simpa using he) hb)
   have hlate:lateAt ops.toList j0 = true:=by
    rcases hok.rest i o hoL hmi j0 (by omega) with hb | ⟨-,hb⟩ | ⟨-,hb⟩
    ·rcases hgood i _ hS (.inr rfl) j0 hb with h2 | h2
     ·rw [hj0f] at h2; simp at h2
     ·omega
    ·exact hb
    ·exact hb
   have hkind:j0 < firstMut E.M ops.toList ∨ extAt ops.toList j0 = true:=by
    rcases hok.rest i o hoL hmi j0 (by omega) with hb | ⟨hb,-⟩ | ⟨hb,-⟩
    ·rcases hgood i _ hS (.inr rfl) j0 hb with h2 | h2
     ·rw [hj0f] at h2; simp at h2
     ·omega
    ·exact .inl hb
    ·exact .inr hb
   generalize ops[j0] = o0 at ho0
   have ho0L:ops.toList[j0]? = some o0:=by simpa using ho0
   unfold lateAt at hlate
   rw [ho0L] at hlate
   simp only [Bool.and_eq_true,Option.isNone_iff_eq_none] at hlate
   obtain ⟨⟨hg0,hop0⟩,hap⟩:=hlate
   have hr0:j0 ∈ Region.ready .any ops listed:=by
    refine mem_ready.2 ⟨by rw [getD_bool (by omega)]; exact hj0f,o0,ho0,fun e he hb=>?_⟩
    exact hmin _ (hok.edge j0 o0 ho0L e (by simpa using he) hb)
   obtain ⟨hw0,hy0⟩:=h.2 j0 hr0 (.inr hmin)
   have hkind':j0 < firstMut E.M ops.toList ∨ isExt o0.op = true:=by
    rcases hkind with hk | hk
    ·exact .inl hk
    ·unfold extAt at hk; rw [ho0L] at hk; exact .inr hk
   obtain ⟨v,hy⟩:=hy0 o0 ho0 hkind' hg0 hop0
   have hK:=wpOp_inv ho0 hy hlet hw0
   have hall:=wpAny_first (md:=.any) ho0 hsel (fun c a w hq=>absurd hq (hQ c _ w)) fuel listed a w (fun j oj hoj hne hun hno=>by
     have hjl:=(Array.getElem?_eq_some_iff.1 hoj).1
     rcases Nat.lt_or_ge j0 j with hlt | hge
     ·have:=List.all_eq_true.1 hap j (List.mem_range.2 (by simpa using hjl))
      have hojL:ops.toList[j]? = some oj:=by simpa using hoj
      rw [hojL] at this
      simp only [Bool.or_eq_true,decide_eq_true_eq] at this
      rcases this with h3 | h3 | h3
      ·omega
      ·obtain ⟨e,he,hb⟩:=List.any_eq_true.1 h3
       simp only [Bool.and_eq_true,beq_iff_eq] at hb
       exact absurd hb.2 (hno e (by simpa using he) hb.1)
      ·simpa using h3
     ·have:=hmin j (by omega)
      rw [getD_bool (by omega)] at hun
      rw [this] at hun; simp at hun)
    hr0 hy (ih _ _ w (hnext j0 o0 ho0 hr0).1 (hnext j0 o0 ho0 hr0).2 hK)
   exact hall.2 i hi
theorem ext_yields {P:Program} {ops:Array Oper} {Q:Exit → Act → World → Prop} {i:Nat} {o:Oper} {K:Act → World → Prop} {a:Act} {w:World} (hi:ops[i]? = some o) (hg:o.guard = none) (he:isExt o.op = true) (hlet:¬ LetsOut Q)
  (h:wpOp P ops Q i K a w):∃ v,Yields P ops o v a:=by
 unfold Go.wpOp at h
 simp only [hi] at h
 have hw:Region.wanted o (yielded ops a.tmps) = true:=by simp [Region.wanted,hg]
 rw [if_pos hw] at h
 rcases h with h | h
 ·cases hop:o.op <;> rw [hop] at he <;> simp [isExt] at he
  rename_i x ix
  unfold Oper.wp at h
  have hex:∀ w,(execOp a.eval o).run P w = ((Instr.extract (a.eval x) ix >>= fun u=>pure (Next.value u):Sem Next)).run P w:=fun w=>by unfold execOp; rw [hop]
  rw [hex] at h
  unfold Instr.extract at h hex
  split at h
  ·rename_i vs hx
   split at h
   ·rename_i v hv
    refine ⟨v,.inl ⟨hw,fun w2=>?_⟩⟩
    rw [hex w2,hx]; simp [hv]
   ·exact h.elim
  ·exact h.elim
 ·exact absurd h.2 hlet
theorem any_suffix {E:Env} {ops:Array Oper} (hok:OkDraw E.M ops.toList) {Q:Exit → Act → World → Prop} (hlet:¬ LetsOut Q):∀ (fuel:Nat) (listed:Array Bool) (k:Nat) (a:Act) (w:World),listed.size = ops.size →
  (∀ i,i < ops.size → (listed.getD i false = true ↔ i < k)) → firstMut E.M ops.toList ≤ k → ops.size ≤ fuel + k → wpOps E.P ops Q (List.range' k (ops.size - k)) a w → wpR E.P ops (firstMut E.M ops.toList) Q fuel listed a w:=by
 have hgood:GoodMasks ops.toList (masks ops.toList):=masksGo_good ops.toList _ [] (by simp) fun i S _ _ j hj=>by simp at hj
 intro fuel
 induction fuel with
 | zero =>
  intro listed k a w hsz hl hm hf h
  have h0:ops.size - k = 0:=by omega
  rw [h0] at h
  refine ⟨?_,h⟩
  apply List.eq_nil_iff_forall_not_mem.2
  intro j hj
  obtain ⟨h1,o,ho,-⟩:=mem_ready.1 hj
  have hjl:=(Array.getElem?_eq_some_iff.1 ho).1
  rw [getD_bool (by omega),((hl j hjl).2 (by omega))] at h1
  simp at h1
 | succ fuel ih =>
  intro listed k a w hsz hl hm hf h
  have honly:∀ i ∈ Region.ready .any ops listed,(i < firstMut E.M ops.toList ∨ ∀ j,j < i → listed.getD j false = true) → i = k ∧ i < ops.size:=by
   intro i hi hway
   obtain ⟨h1,o,ho,hpre⟩:=mem_ready.1 hi
   have hil:=(Array.getElem?_eq_some_iff.1 ho).1
   rw [getD_bool (by omega)] at h1
   have hik:k ≤ i:=by
    rcases Nat.lt_or_ge i k with hlt | hge
    ·rw [(hl i hil).2 hlt] at h1; simp at h1
    ·exact hge
   refine ⟨?_,hil⟩
   rcases Nat.lt_or_ge k i with hlt | hge
   ·exfalso
    have:=(hl k (by omega)).1 (hway.resolve_left (by omega) k hlt)
    omega
   ·omega
  refine ⟨fun hr=>?_,fun i hi hway=>?_⟩
  ·rcases Nat.lt_or_ge k ops.size with hlt | hge
   ·exfalso
    have ho:ops[k]? = some ops[k]:=Array.getElem?_eq_getElem hlt
    have:k ∈ Region.ready .any ops listed:=by
     refine mem_ready.2 ⟨?_,ops[k],ho,fun e he hb=>?_⟩
     ·rw [getD_bool (by omega)]
      cases hq:listed.getD k false with
      | false=>rfl
      | true=>have:=(hl k hlt).1 hq; omega
     ·have:=hok.edge k ops[k] (by rw [Array.getElem?_toList]; exact ho) e (by simpa using he) hb
      exact (hl e.on (by omega)).2 this
    rw [hr] at this; simp at this
   ·have h0:ops.size - k = 0:=by omega
    rw [h0] at h; exact h
  ·obtain ⟨rfl,hil⟩:=honly i hi hway
   rw [show ops.size - i = (ops.size - (i + 1)) + 1 by omega,List.range'_succ,wpOps_cons] at h
   refine ⟨?_,fun o2 ho2 hk2 hg2 _=>ext_yields ho2 hg2 (hk2.resolve_left (by omega)) hlet h⟩
   refine wpOp_mono (fun a' w' h'=>ih (listed.setIfInBounds i true) (i + 1) a' w' (by simp [hsz]) (fun j hj=>?_) (by omega) (by omega) h') h
   by_cases hij:i = j
   ·subst hij
    simp [hsz,hil]
   ·rw [getD_set_ne false hij,hl j hj]; omega
theorem region_any {E:Env} (hE:E.Ok) {w0:Base} {F0:Nat → Prop} {n:Nat} (hx:Ctx E w0 F0) {ops:Array Oper} (hdst:dstOk n ops = true) (hok:OkDraw E.M ops.toList)
  {st0:St} {l:List Eff} (hll:l.length = firstMut E.M ops.toList) (hml:l.length ≤ ops.size) (hstep:∀ i o e,ops.toList[i]? = some o → l[i]? = some e → StepOf E ops (effs st0 (l.take i)) o e) (hlog:LogOk st0 l)
  {Q:Exit → Act → World → Prop} (hlet:¬ LetsOut Q) (hrest:∀ a w,Fits w0 F0 n (effs st0 l) a w → wpOps E.P ops Q (List.range' l.length (ops.size - l.length)) a w) :
  ∀ (fuel:Nat) (listed:Array Bool) (σ:List Nat) (a:Act) (w:World),listed.size = ops.size → (∀ i,i < ops.size → (listed.getD i false = true ↔ i ∈ σ)) → σ.Nodup → (∀ i ∈ σ,i < l.length) →
   ops.size ≤ fuel + σ.length → Closed ops.toList (fun i=>listed.getD i false = true) → Fits w0 F0 n (effs st0 (pick l σ)) a w → wpR E.P ops (firstMut E.M ops.toList) Q fuel listed a w:=by
 have hgood:GoodMasks ops.toList (masks ops.toList):=masksGo_good ops.toList _ [] (by simp) fun i S _ _ j hj=>by simp at hj
 have hdstof:∀ (j:Nat) (e:Eff),l[j]? = some e → ∃ o:Oper,ops.toList[j]? = some o ∧ e.1 = o.dst:=by
  intro j e hj
  have hjl:=(List.getElem?_eq_some_iff.1 hj).1
  have hjo:j < ops.toList.length:=by simp; omega
  exact ⟨_,List.getElem?_eq_getElem hjo,(hstep j _ e (List.getElem?_eq_getElem hjo) hj).dst⟩
 have hfull:∀ σ:List Nat,σ.Nodup → (∀ i,i < l.length → i ∈ σ) → (∀ i ∈ σ,i < l.length) → ∀ a w,Fits w0 F0 n (effs st0 (pick l σ)) a w → Fits w0 F0 n (effs st0 l) a w:=by
  intro σ hσ h1 h2 a w hf
  have e:l = pick l (List.range l.length):=by rw [pick_range l l.length (Nat.le_refl _),List.take_length]
  refine Fits.congr (fun t v hv=>?_) (fun id=>?_) hf
  ·rw [e] at hv
   exact pick_T hlog hv fun j e' hj _=>⟨List.mem_range.2 (List.getElem?_eq_some_iff.1 hj).1,h1 j (List.getElem?_eq_some_iff.1 hj).1⟩
  ·have key:∀ ob,look (effs st0 l).H id = some ob ↔ look (effs st0 (pick l σ)).H id = some ob:=by
    intro ob
    rw [pick_H hlog hσ]
    conv=>lhs; rw [e]
    rw [pick_H hlog List.nodup_range]
    constructor
    ·rintro (h | ⟨j,hj,e',h3,h4⟩)
     ·exact .inl h
     ·exact .inr ⟨j,h1 j (List.mem_range.1 hj),e',h3,h4⟩
    ·rintro (h | ⟨j,hj,e',h3,h4⟩)
     ·exact .inl h
     ·exact .inr ⟨j,List.mem_range.2 (h2 j hj),e',h3,h4⟩
   cases hq:look (effs st0 (pick l σ)).H id with
   | some ob=>exact (key ob).2 hq
   | none =>
    cases hq':look (effs st0 l).H id with
    | none=>rfl
    | some ob=>rw [(key ob).1 hq'] at hq; simp at hq
 intro fuel
 induction fuel with
 | zero =>
  intro listed σ a w hsz hl hσ hσl hf hcl h
  have hlen:=len_below hσ hσl
  have hall:∀ i,i < l.length → i ∈ σ:=all_below hσ hσl (by omega)
  have hml':l.length = ops.size:=by omega
  have hfits:=hfull σ hσ hall hσl a w h
  have:=hrest a w hfits
  rw [hml',Nat.sub_self] at this
  refine ⟨?_,this⟩
  apply List.eq_nil_iff_forall_not_mem.2
  intro j hj
  obtain ⟨h1,o,ho,-⟩:=mem_ready.1 hj
  have hjl:=(Array.getElem?_eq_some_iff.1 ho).1
  rw [getD_bool (by omega),((hl j hjl).2 (hall j (by omega)))] at h1
  simp at h1
 | succ fuel ih =>
  intro listed σ a w hsz hl hσ hσl hf hcl h
  refine ⟨fun hr=>?_,fun i hi hway=>?_⟩
  ·-- all is listed
   have hall:∀ i,i < ops.size → listed.getD i false = true:=by
    intro i
    induction i using Nat.strongRecOn with
    | _ i ihi =>
     intro hi
     cases hq:listed.getD i false with
     | true=>rfl
     | false =>
      exfalso
      have ho:ops[i]? = some ops[i]:=Array.getElem?_eq_getElem hi
      have:i ∈ Region.ready .any ops listed:=by
       refine mem_ready.2 ⟨by rw [getD_bool (by omega)]; exact hq,ops[i],ho,fun e he hb=>?_⟩
       have:=hok.edge i ops[i] (by rw [Array.getElem?_toList]; exact ho) e (by simpa using he) hb
       exact ihi e.on this (by omega)
      rw [hr] at this; simp at this
   have hin:∀ i,i < l.length → i ∈ σ:=fun i hi=>(hl i (by omega)).1 (hall i (by omega))
   have hml':l.length = ops.size:=by
    rcases Nat.lt_or_ge l.length ops.size with hlt | hge
    ·have:=hσl l.length ((hl l.length hlt).1 (hall l.length hlt)); omega
    ·omega
   have:=hrest a w (hfull σ hσ hin hσl a w h)
   rw [hml',Nat.sub_self] at this
   exact this
  ·obtain ⟨h1,o,ho,hpre⟩:=mem_ready.1 hi
   have hil:=(Array.getElem?_eq_some_iff.1 ho).1
   have hoL:ops.toList[i]? = some o:=by simpa using ho
   rw [getD_bool (by omega)] at h1
   have hiσ:i ∉ σ:=fun hm=>by rw [(hl i hil).2 hm] at h1; simp at h1
   have hS:Closed ops.toList (fun j=>listed.getD j false = true ∨ j = i):=by
    intro j o' ho' hj e he hb
    rcases hj with hj | rfl
    ·exact .inl (hcl j o' ho' hj e he hb)
    ·rw [hoL] at ho'
     obtain rfl:=Option.some.inj ho'
     exact .inl (hpre e (by simpa using he) hb)
   have hbefore:∀ j,j ≠ i → ((masks ops.toList).getD i 0).testBit j = true → listed.getD j false = true:=by
    intro j hj hb
    rcases hgood i _ hS (.inr rfl) j hb with h2 | h2
    ·exact h2
    ·exact absurd h2 hj
   rcases Nat.lt_or_ge i l.length with him | him
   ·-- of the quiet part
    have he:l[i]? = some l[i]:=List.getElem?_eq_getElem him
    generalize l[i] = e at he
    obtain ⟨hsd,hsf,hhow⟩:=hstep i o e hoL he
    obtain ⟨F,ρ,hfit⟩:=h
    have htake:l.take i = pick l (List.range i):=(pick_range l i (by omega)).symm
    have hnames:∀ t ∈ opTmps o ++ gdTmps ops.toList o,∀ v,look (effs st0 (l.take i)).T t = some v → look (effs st0 (pick l σ)).T t = some v:=by
     intro t ht v hv
     rw [htake] at hv
     refine pick_T hlog hv fun j e' hj hjt=>?_
     obtain ⟨o',ho',hd'⟩:=hdstof j e' hj
     have hjl:=(List.getElem?_eq_some_iff.1 hj).1
     obtain ⟨hji,hbit⟩:=hok.names i o hoL (by omega) t ht j o' (by omega) ho' (by rw [← hd']; exact hjt)
     exact ⟨List.mem_range.2 hji,(hl j (by omega)).1 (hbefore j (by omega) hbit)⟩
    have hpre':Pre E F ρ (effs st0 (l.take i)).T (effs st0 (l.take i)).H o a w:=by
     have hp0:=hfit.pre hx o
     refine ⟨hp0.glob,hp0.lt,fun t v ht hv=>?_,fun id ob L hob hL=>?_⟩
     ·refine hfit.tmps t v (hnames t ?_ v hv)
      exact List.mem_append.2 (.inl (List.mem_filterMap.2 ⟨.tmp t,by simpa using ht,rfl⟩))
     ·obtain ⟨ob',hob'⟩:=Option.isSome_iff_exists.1 (hfit.dom id L hL)
      have hsame:ob' = ob:=by
       rw [htake] at hob
       have c1:=(pick_H hlog List.nodup_range).1 hob
       have c2:=(pick_H hlog hσ).1 hob'
       rcases c1 with c1 | ⟨j,hj,e1,h3,h4⟩ <;> rcases c2 with c2 | ⟨j',hj',e2,h5,h6⟩
       ·rw [c1] at c2; exact (Option.some.inj c2).symm
       ·have:=(hlog.new h5 (by rw [h6]; rfl:(look e2.2.2 id).isSome = true)).1; rw [c1] at this; simp at this
       ·have:=(hlog.new h3 (by rw [h4]; rfl:(look e1.2.2 id).isSome = true)).1; rw [c2] at this; simp at this
       ·have:=(hlog.new h3 (by rw [h4]; rfl:(look e1.2.2 id).isSome = true)).2 j' e2 h5 (by rw [h6]; rfl)
        subst this
        rw [h3] at h5
        obtain rfl:=Option.some.inj h5
        rw [h4] at h6; exact (Option.some.inj h6).symm
      subst hsame
      exact (hfit.heap.obj id ob' L hob' hL).1
    have hguard:∀ g,guardA ops (effs st0 (l.take i)).T o = some g → Region.wanted o (yielded ops a.tmps) = g:=by
     intro g hg
     refine guard_run (F:=F) (ρ:=ρ) (w:=w) hg fun j want d v hgd hd hv=>?_
     obtain ⟨o',ho',hd'⟩:=Option.bind_eq_some_iff.1 hd
     refine ⟨by rw [hfit.size]; exact dstOk_spec hdst (by simpa using Array.mem_of_getElem? ho') hd',hfit.tmps d v (hnames d ?_ v hv)⟩
     refine List.mem_append.2 (.inr ?_)
     unfold gdTmps
     rw [hgd]
     simp only
     have:ops.toList[j]? = some o':=by simpa using ho'
     rw [this]
     simp [hd']
    have hnext:∀ cv w' F' ρ',Post F ρ w e.2.1 e.2.2 F' ρ' w' cv → wpR E.P ops (firstMut E.M ops.toList) Q fuel (listed.setIfInBounds i true) (a.put o.dst cv) w':=by
     intro cv w' F' ρ' hpost
     have hfit':=hfit.post (dst:=o.dst) hpost (fun id hid=>?_) (fun d hd=>dstOk_spec hdst (List.mem_of_getElem? hoL) hd)
     ·refine ih (listed.setIfInBounds i true) (σ ++ [i]) _ _ (by simp [hsz]) (fun j hj=>?_) ?_ (fun j hj=>?_) (by simp; omega) ?_ ⟨F',ρ', ?_⟩
      ·by_cases hij:i = j
       ·subst hij; simp [hsz,hil]
       ·rw [getD_set_ne false hij,hl j hj]
        rw [List.mem_append]
        exact ⟨fun h=>.inl h,fun h=>h.elim id fun h=>absurd (List.mem_singleton.1 h).symm hij⟩
      ·rw [List.nodup_append]
       exact ⟨hσ,by simp,fun x hx y hy=>by simp at hy; subst hy; intro hxy; subst hxy; exact hiσ hx⟩
      ·rcases List.mem_append.1 hj with hj | hj
       ·exact hσl j hj
       ·simp at hj; subst hj; exact him
      ·intro j o' ho' hj e' he' hb
       have:=hS j o' ho' (by
        by_cases hij:i = j
        ·exact .inr hij.symm
        ·rw [getD_set_ne false hij] at hj; exact .inl hj) e' he' hb
       rcases this with h2 | h2
       ·exact getD_set_true h2
       ·rw [h2]; simp [hsz,hil]
      ·have:pick l (σ ++ [i]) = pick l σ ++ [e]:=by simp [pick,he]
       rw [this,effs_append]
       show Fit w0 F0 n ((effs st0 (pick l σ)).eff e.1 e.2.1 e.2.2) _ _ _ _
       rw [hsd]; exact hfit'
     ·refine ⟨?_,(freshB_spec hsf id hid).2⟩
      cases hq:look (effs st0 (pick l σ)).H id with
      | none=>rfl
      | some ob =>
       exfalso
       obtain ⟨n1,n2⟩:=hlog.new he hid
       rcases (pick_H hlog hσ).1 hq with c | ⟨j,hj,e',h3,h4⟩
       ·rw [n1] at c; simp at c
       ·have:=n2 j e' h3 (by rw [h4]; rfl)
        subst this; exact hiσ hj
    refine ⟨?_,fun o2 ho2 _ hg2 hl2=>?_⟩
    rotate_left
    ·rw [ho] at ho2
     obtain rfl:=Option.some.inj ho2
     rcases hhow with ⟨hg,-,-⟩ | ⟨-,hq⟩
     ·unfold guardA at hg; rw [hg2] at hg; simp at hg
     ·obtain ⟨v,hv⟩:=late_yields hE hpre' (hq.2 (lateOp_mem hl2)).1 hl2
      exact ⟨v,.inl ⟨by simp [Region.wanted,hg2],hv⟩⟩
    unfold wpOp
    rw [ho]
    simp only
    rcases hhow with ⟨hg,hv,hfr⟩ | ⟨hg,hq⟩
    ·rw [if_neg (by rw [hguard false hg]; simp)]
     refine hnext undef w F ρ ?_
     rw [hv,hfr]
     exact ⟨Below.refl _ _,fun _ h=>h,fun _ h=>.inl h,hfit.lt,.tup [] #[] rfl (fun j x v h=>by simp at h),fun _ _=>rfl,fun _ _ _ h=>by simp [look] at h,fun _ _ h=>by simp [look] at h,fun _ _ _ _ _ _ h=>by simp [look] at h⟩
    ·rw [if_pos (hguard true hg)]
     exact .inl (hq.1 F ρ a w hpre' _ _ hnext)
   ·-- the rest
    have hprev:∀ j,j < i → listed.getD j false = true:=hway.resolve_left (by omega)
    have hieq:i = l.length:=by
     rcases Nat.lt_or_ge l.length i with hlt | hge
     ·have:=hσl l.length ((hl l.length (by omega)).1 (hprev l.length hlt)); omega
     ·omega
    have hin:∀ j,j < l.length → j ∈ σ:=fun j hj=>(hl j (by omega)).1 (hprev j (by omega))
    have hw:=hrest a w (hfull σ hσ hin hσl a w h)
    rw [← hieq,show ops.size - i = (ops.size - (i + 1)) + 1 by omega,List.range'_succ,wpOps_cons] at hw
    have hσlen:l.length ≤ σ.length:=by
     have:=sub_len (List.range l.length) σ List.nodup_range fun j hj=>hin j (List.mem_range.1 hj)
     simpa using this
    have hσlen':σ.length ≤ l.length:=by
     exact len_below hσ hσl
    refine ⟨?_,fun o2 ho2 hk2 hg2 _=>ext_yields ho2 hg2 (hk2.resolve_left (by omega)) hlet hw⟩
    refine wpOp_mono (fun a' w' h'=>any_suffix hok hlet fuel (listed.setIfInBounds i true) (i + 1) a' w' (by simp [hsz]) (fun j hj=>?_) (by omega) (by omega) h') hw
    by_cases hij:i = j
    ·subst hij; simp [hsz,hil]
    ·rw [getD_set_ne false hij,hl j hj]
     constructor
     ·intro hm; have:=hσl j hm; omega
     ·intro hlt; exact hin j (by omega)
end Go.Vai
