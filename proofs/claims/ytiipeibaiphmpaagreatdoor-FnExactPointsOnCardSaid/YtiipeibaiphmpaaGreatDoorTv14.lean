/- Texts of this claim: Zv14. -/
import Derived.Test.YtiipeibaiphmpaaGreatDoorTv13b
set_option linter.unusedVariables false
set_option linter.unusedSimpArgs false
namespace Go.Vai
def dropped (H H':List (Nat × Obj)):List (Nat × Obj):=H.filter fun p=>(look H' p.1).isNone
def leV (Hd:List (Nat × Obj)) (v v':AV):Prop :=
 v = v' ∨ v' = .dead ∨ (v = .esl ∧ ∃ o,v' = .own o 0 0) ∨ ∃ y,immC Hd v = some y ∧ v' = .i y
def leT (s:St) (Hd:List (Nat × Obj)):List (Nat × AV) → Prop
 | []=>True
 | (t,v) :: l=>(∃ u,look s.T t = some u ∧ leV Hd u v) ∧ leT s Hd l
def leH (s:St):List (Nat × Obj) → Prop
 | []=>True
 | (o,ob) :: l=>(look s.H o = some ob ∨ (look s.H o = none ∧ ob.els = [] ∧ o < 700000)) ∧ leH s l
mutual
def inH (H:List (Nat × Obj)):AV → Bool
 | .own o _ _ | .ptr o _ _ | .cell o _ _=>(look H o).isSome
 | .tup vs=>insH H vs
 | .fn _ cap=>insH H cap
 | .pin _ x=>inH H x
 | _=>true
def insH (H:List (Nat × Obj)):List AV → Bool
 | []=>true
 | x :: l=>inH H x && insH H l
end
def clT (H:List (Nat × Obj)):List (Nat × AV) → Bool
 | []=>true
 | (_,v) :: l=>inH H v && clT H l
structure Le (s s':St):Prop where
 T:leT s (dropped s.H s'.H) s'.T
 H:leH s s'.H
 cl:clT s'.H s'.T = true
theorem insH_mem {H:List (Nat × Obj)} {x:AV}:∀ l,insH H l = true → x ∈ l → inH H x = true
 | y :: l,h,hx=>by
  simp only [insH,Bool.and_eq_true] at h
  rcases List.mem_cons.1 hx with rfl | hx
  ·exact h.1
  ·exact insH_mem l h.2 hx
theorem inH_spec {H:List (Nat × Obj)} {o:Nat} {x:AV} (hm:Mentions o x):inH H x = true → (look H o).isSome = true:=by
 induction hm with
 | own off len=>intro h; simpa [inH] using h
 | ptr e j=>intro h; simpa [inH] using h
 | cell off len=>intro h; simpa [inH] using h
 | tup vs x hx h ih=>intro hh; exact ih (insH_mem vs (by simpa [inH] using hh) hx)
 | pin v x h ih=>intro hh; exact ih (by simpa [inH] using hh)
 | fn f cap x hx h ih=>intro hh; exact ih (insH_mem cap (by simpa [inH] using hh) hx)
theorem clT_spec {H:List (Nat × Obj)}:∀ {T:List (Nat × AV)},clT H T = true → ∀ t v,look T t = some v → inH H v = true
 | [],_,t,v,h=>by simp [look] at h
 | (i,x) :: l,hc,t,v,h=>by
  simp only [clT,Bool.and_eq_true] at hc
  rw [look_cons] at h
  split at h
  ·obtain rfl:=Option.some.inj h; exact hc.1
  ·exact clT_spec hc.2 t v h
theorem leT_spec {s:St} {Hd:List (Nat × Obj)}:∀ {T:List (Nat × AV)},leT s Hd T → ∀ t v,look T t = some v → ∃ u,look s.T t = some u ∧ leV Hd u v
 | [],_,t,v,h=>by simp [look] at h
 | (i,x) :: l,hc,t,v,h=>by
  rw [look_cons] at h
  split at h
  ·rename_i hi; subst hi; obtain rfl:=Option.some.inj h; exact hc.1
  ·exact leT_spec hc.2 t v h
theorem leH_spec {s:St}:∀ {H:List (Nat × Obj)},leH s H → ∀ o ob,look H o = some ob → look s.H o = some ob ∨ (look s.H o = none ∧ ob.els = [] ∧ o < 700000)
 | [],_,t,v,h=>by simp [look] at h
 | (i,x) :: l,hc,t,v,h=>by
  rw [look_cons] at h
  split at h
  ·rename_i hi; subst hi; obtain rfl:=Option.some.inj h; exact hc.1
  ·exact leH_spec hc.2 t v h
theorem look_dropped {H H':List (Nat × Obj)} {o:Nat} {ob:Obj} (h:look (dropped H H') o = some ob):look H o = some ob ∧ look H' o = none:=by
 induction H with
 | nil=>simp [dropped,look] at h
 | cons p H ih =>
  obtain ⟨i,x⟩:=p
  simp only [dropped,List.filter_cons] at h
  by_cases hp:(look H' i).isNone = true
  ·rw [if_pos hp,look_cons] at h
   rw [look_cons]
   split at h
   ·rename_i hi; subst hi; rw [if_pos rfl]; exact ⟨h,by simpa using hp⟩
   ·rename_i hi; rw [if_neg hi]; exact ih h
  ·rw [if_neg hp] at h
   obtain ⟨h1,h2⟩:=ih h
   rw [look_cons,if_neg]
   ·exact ⟨h1,h2⟩
   ·intro hi; subst hi; rw [h2] at hp; simp at hp
theorem Fits.le {w0:Base} {F0:Nat → Prop} {n:Nat} {s s':St} {a:Act} {w:World} (h:Fits w0 F0 n s a w) (hle:Le s s'):Fits w0 F0 n s' a w:=by
 obtain ⟨F,ρ,hf⟩:=h
 have hd:∀ id ob L,look (dropped s.H s'.H) id = some ob → ρ id = some L → ObjRep F w ob L:=fun id ob L h1 h2=>(hf.heap.obj id ob L (look_dropped h1).1 h2).1
 have hsubF:∀ b,F b → Lent F ρ (dropped s.H s'.H) b:=fun b hb=>.inl hb
 have hρ:∀ o L,(fun o=>if (look s'.H o).isSome = true then ρ o else none) o = some L → (look s'.H o).isSome = true ∧ ρ o = some L:=by
  intro o L h
  simp only at h
  split at h
  ·rename_i hq; exact ⟨hq,h⟩
  ·simp at h
 have hob:∀ o ob L,look s'.H o = some ob → ρ o = some L → look s.H o = some ob:=by
  intro o ob L h1 h2
  rcases leH_spec hle.H o ob h1 with h3 | ⟨h3,-⟩
  ·exact h3
  ·have:=hf.dom o L h2; rw [h3] at this; simp at this
 refine ⟨Lent F ρ (dropped s.H s'.H),fun o=>if (look s'.H o).isSome = true then ρ o else none,⟨⟨hf.below,hf.defers,hf.size,fun b hb=>.inl (hf.sub b hb),fun b hb=>?_,fun b hb=>?_,fun t v hv=>?_,⟨fun o ob L ho hL=>?_,fun o ob ho hne=>?_,fun o o' ob ob' L L' ho ho' hL hL' hbb=>?_⟩⟩,fun o L hL=>(hρ o L hL).1,fun o h7 ho=>?_⟩⟩
 ·rcases hb with hb | ⟨o,ob,L,h1,h2,rfl⟩
  ·exact hf.sup b hb
  ·exact .inr (hf.heap.obj o ob L (look_dropped h1).1 h2).2.1
 ·rcases hb with hb | ⟨o,ob,L,h1,h2,rfl⟩
  ·exact hf.lt b hb
  ·obtain ⟨cs,ty,h3,-⟩:=(hf.heap.obj o ob L (look_dropped h1).1 h2).1.at_
   exact (Array.getElem?_eq_some_iff.1 h3).1
 ·obtain ⟨u,hu,hle'⟩:=leT_spec hle.T t v hv
  have hr:=hf.tmps t u hu
  rcases hle' with rfl | rfl | ⟨rfl,o,rfl⟩ | ⟨y,hy,rfl⟩
  ·refine hr.away hsubF (fun _ _=>rfl) fun o L hm hL=>?_
   have:=inH_spec hm (clT_spec hle.cl t _ hv)
   simp only [this,if_true]; exact hL
  ·exact .dead _
  ·generalize a.tmps.getD t undef = x at hr
   cases hr with | esl ad=>exact .ownE _ _ _
  ·exact .i _ _ (immC_rep hd hr hy)
 ·obtain ⟨h1,h2⟩:=hρ o L hL
  obtain ⟨q1,q2,q3⟩:=hf.heap.obj o ob L (hob o ob L ho h2) h2
  refine ⟨q1.mono hsubF (fun _ _=>rfl) rfl,q2,fun hF=>?_⟩
  rcases hF with hF | ⟨o',ob',L',g1,g2,g3⟩
  ·exact q3 hF
  ·obtain ⟨g4,g5⟩:=look_dropped g1
   have:=hf.heap.apart o' o ob' ob L' L g4 (hob o ob L ho h2) g2 h2 g3
   subst this
   rw [g5] at h1; simp at h1
 ·rcases leH_spec hle.H o ob ho with h3 | ⟨-,h4,-⟩
  ·simp only [ho,Option.isSome_some,if_true]; exact hf.heap.sm o ob h3 hne
  ·exact absurd h4 hne
 ·obtain ⟨h1,h2⟩:=hρ o L hL
  obtain ⟨h1',h2'⟩:=hρ o' L' hL'
  exact hf.heap.apart o o' ob ob' L L' (hob o ob L ho h2) (hob o' ob' L' ho' h2') h2 h2' hbb
 ·rw [if_pos ho]
  obtain ⟨ob,hob'⟩:=Option.isSome_iff_exists.1 ho
  rcases leH_spec hle.H o ob hob' with h3 | ⟨-,-,h4⟩
  ·exact hf.pin o h7 (by rw [h3]; rfl)
  ·omega
def XL (E:Env) (n:Nat) (c:Code) (st:St) (Q:Exit → St → Prop):Prop :=
 ∀ w0 F0 a w,Ctx E w0 F0 → Fits w0 F0 n st a w → (Code.loop c).wp E.P (conc w0 F0 n Q) a w
def thenX (b:St → Prop) (Q:Exit → St → Prop):Exit → St → Prop
 | .normal,s=>b s
 | .exit i,s=>Q (.exit i) s
 | .goto i,s=>Q (.goto i) s
 | .ret,s=>Q .ret s
 | .panic c,s=>Q (.panic c) s
 | .outgrown,s=>Q .outgrown s
def blockX (id:Nat) (Q:Exit → St → Prop):Exit → St → Prop
 | .normal,s=>Q .normal s
 | .exit i,s=>if i = id then Q .normal s else Q (.exit i) s
 | .goto i,s=>Q (.goto i) s
 | .ret,s=>Q .ret s
 | .panic c,s=>Q (.panic c) s
 | .outgrown,s=>Q .outgrown s
def RX (E:Env) (ops:Array Oper) (d:Bool) (st:St) (K:St → Prop):Prop:=match d with
 | false=>XR E ops ops.toList st K
 | true=>if okDraw E.M ops.toList = true then XR E ops ops.toList st K else
   ∃ m J S,okLate E.M ops.toList m J = true ∧ XR E ops (ops.toList.take m) st fun st'=>LateC E S ops st' J ∧ XRS E S (ops.toList.drop m) st' K
def X (E:Env) (n:Nat):Code → St → (Exit → St → Prop) → Prop
 | .skip,st,Q=>Q .normal st
 | .region _ ops d,st,Q=>RX E ops d st (Q .normal)
 | .seq a b,st,Q=>X E n a st (thenX (fun s=>X E n b s Q) Q)
 | .cond c t e,st,Q=>match evA E st.T c with
  | some (.i (.bool b))=>(b = true → X E n t st Q) ∧ (b = false → X E n e st Q)
  | _=>False
 | .block id c,st,Q=>X E n c st (blockX id Q)
 | .loop c,st,Q=>XL E n c st Q
 | .exit id,st,Q=>Q (.exit id) st
 | .ret,st,Q=>Q .ret st
 | _,_,_=>False
def codeOk (M:List FuncId) (n:Nat):Code → Bool
 | .region _ ops d=>dstOk n ops
 | .seq a b=>codeOk M n a && codeOk M n b
 | .cond _ a b=>codeOk M n a && codeOk M n b
 | .block _ c=>codeOk M n c
 | _=>true
theorem firstMutGo_le (M:List FuncId):∀ (seen:List Nat) (os:List Oper),firstMutGo M seen os ≤ os.length
 | _,[]=>Nat.le_refl _
 | seen,o :: os=>by
  simp only [firstMutGo]
  split
  ·omega
  ·have:=firstMutGo_le M (opTmps o ++ seen) os; simp; omega
theorem firstMut_le (M:List FuncId) (os:List Oper):firstMut M os ≤ os.length:=firstMutGo_le M [] os
theorem firstMutGo_take (M:List FuncId):∀ (seen:List Nat) (os:List Oper) (o:Oper),o ∈ os.take (firstMutGo M seen os) → isMut M o.op = false
 | _,[],o,h=>by simp at h
 | seen,p :: os,o,h=>by
  simp only [firstMutGo] at h
  split at h
  ·simp at h
  ·rename_i hp
   rw [List.take_succ_cons] at h
   rcases List.mem_cons.1 h with rfl | h
   ·simp only [Bool.or_eq_true,not_or,Bool.not_eq_true] at hp; exact hp.1
   ·exact firstMutGo_take M (opTmps p ++ seen) os o h
theorem firstMut_take (M:List FuncId) (os:List Oper) (o:Oper) (h:o ∈ os.take (firstMut M os)):isMut M o.op = false:=firstMutGo_take M [] os o h
theorem region_sound {E:Env} (hE:E.Ok) {w0:Base} {F0:Nat → Prop} {n:Nat} (hx:Ctx E w0 F0) {id:Nat} {ops:Array Oper} {d:Bool} (hok:codeOk E.M n (.region id ops d) = true) {st:St} {Q:Exit → St → Prop}
  (hX:RX E ops d st (Q .normal)) {a:Act} {w:World} (h:Fits w0 F0 n st a w):(Code.region id ops d).wp E.P (conc w0 F0 n Q) a w:=by
 simp only [codeOk] at hok
 have hQ:∀ st a w,Q .normal st → Fits w0 F0 n st a w → conc w0 F0 n Q .normal a w:=fun st a w h1 h2=>⟨st,h1,h2⟩
 cases d with
 | false =>
  have:=XR_seq hE hx hok hQ ops.toList 0 st a w (by simp) hX h
  refine wp_region ?_
  rw [List.range_eq_range']
  simpa using this
 | true =>
  simp only [RX] at hX
  split at hX
  ·rename_i hokd
   have hd:=okDraw_spec hokd
   have hm:=firstMut_le E.M ops.toList
   have hX':XR E ops (ops.toList.take (firstMut E.M ops.toList) ++ ops.toList.drop (firstMut E.M ops.toList)) st (Q .normal):=by rw [List.take_append_drop]; exact hX
   obtain ⟨l,h1,h2,h3⟩:=XR_log hE _ _ st _ (firstMut_take E.M ops.toList) hX'
   have hl:l.length = firstMut E.M ops.toList:=by rw [h1,List.length_take]; omega
   have hstep:∀ i o e,ops.toList[i]? = some o → l[i]? = some e → StepOf E ops (effs st (l.take i)) o e:=by
    intro i o e ho he
    have hil:=(List.getElem?_eq_some_iff.1 he).1
    exact h2 i o e (by rw [List.getElem?_take,if_pos (by omega)]; exact ho) he
   have hof:∀ (i:Nat) (e:Eff),l[i]? = some e → ∃ o,ops.toList[i]? = some o ∧ i < firstMut E.M ops.toList:=by
    intro i e he
    have hil:=(List.getElem?_eq_some_iff.1 he).1
    exact ⟨_,List.getElem?_eq_getElem (by omega),by omega⟩
   have hlog:LogOk st l:=by
    refine ⟨fun i e he=>?_,fun i j e e' d hi hj hd1 hd2=>?_⟩
    ·obtain ⟨o,ho,-⟩:=hof i e he
     exact (hstep i o e ho he).fresh
    ·obtain ⟨o,ho,hlt⟩:=hof i e hi
     obtain ⟨o',ho',hlt'⟩:=hof j e' hj
     have e1:=(hstep i o e ho hi).dst
     have e2:=(hstep j o' e' ho' hj).dst
     exact (hd.dsts i o ho hlt d (by rw [← e1]; exact hd1) j o' hlt' ho' (by rw [← e2]; exact hd2)).symm
   have hsz:ops.toList.length = ops.size:=by simp
   have hQ':∀ st a w,Q .normal st → Fits w0 F0 n st a w → (fun e a w=>e = .normal ∧ conc w0 F0 n Q .normal a w:Exit → Act → World → Prop) .normal a w:=fun st a w h1 h2=>⟨rfl,st,h1,h2⟩
   refine wp_mono (Q:=fun e a w=>e = .normal ∧ conc w0 F0 n Q .normal a w) ?_ (by rintro e a w ⟨rfl,h⟩; exact h)
   refine wp_region_any hE.many ?_
   refine wpAny_of_wpR hd (fun c a w h=>by cases h.1) (by rintro ⟨a,w,h,-⟩; cases h) ops.size _ a _ (by simp) (fun i o _ hi=>?_) ?_
   ·have h0:(Array.replicate ops.size false).getD i false = false:=by
     rw [Array.getD_eq_getD_getElem?,Array.getElem?_replicate]; split <;> rfl
    exact absurd hi (by show ¬ (Array.replicate ops.size false).getD i false = true; rw [h0]; simp)
   refine region_any hE hx hok hd hl (by omega) hstep hlog (by rintro ⟨a,w,h,-⟩; cases h) (fun a' w' h'=>?_) ops.size _ [] a _ (by simp) (fun i hi=>by simp [hi]) List.nodup_nil (by simp) (by simp) (fun i o _ hi=>?_) ?_
   ·have:=XR_seq (Q:=fun e a w=>e = .normal ∧ conc w0 F0 n Q .normal a w) hE hx hok hQ' _ l.length _ a' w' (by rw [hl]) h3 h'
    rw [hl] at this ⊢
    rwa [List.length_drop,hsz] at this
   ·have h0:(Array.replicate ops.size false).getD i false = false:=by
     rw [Array.getD_eq_getD_getElem?,Array.getElem?_replicate]; split <;> rfl
    exact absurd hi (by show ¬ (Array.replicate ops.size false).getD i false = true; rw [h0]; simp)
   ·obtain ⟨F,ρ,hf⟩:=h
    exact ⟨F,ρ,⟨⟨hf.below.below (Below.refl _ _).drew,hf.defers,hf.size,hf.sub,hf.sup,hf.lt,fun t v hv=>(hf.tmps t v hv).mono (w:=w) (w':={ w with drawn:=w.drawn + 1 }) (fun _ h=>h) (fun _ _=>rfl) fun _ _ h=>h,⟨fun o ob L ho hL=>by
     obtain ⟨q1,q2,q3⟩:=hf.heap.obj o ob L ho hL
     exact ⟨q1.mono (w:=w) (w':={ w with drawn:=w.drawn + 1 }) (fun _ h=>h) (fun _ _=>rfl) rfl,q2,q3⟩,hf.heap.sm,hf.heap.apart⟩⟩,hf.dom,hf.pin⟩⟩
  ·-- late reads
   obtain ⟨m,J,S,hs,hXm⟩:=hX
   have hd:=okLate_spec hs
   have hm:=firstMut_le E.M ops.toList
   have hX':XR E ops (ops.toList.take (firstMut E.M ops.toList) ++ []) st fun st'=>LateC E S ops st' J ∧ XRS E S (ops.toList.drop m) st' (Q .normal):=by rw [List.append_nil,hd.fm]; exact hXm
   obtain ⟨l,h1,h2,h3⟩:=XR_log hE _ _ st _ (firstMut_take E.M ops.toList) hX'
   have hl:l.length = m:=by rw [h1,List.length_take,← hd.fm]; omega
   have hsz:ops.toList.length = ops.size:=by simp
   have hml:m ≤ ops.size:=by rw [← hd.fm]; omega
   have hstep:∀ i o e,ops.toList[i]? = some o → l[i]? = some e → StepOf E ops (effs st (l.take i)) o e:=by
    intro i o e ho he
    have hil:=(List.getElem?_eq_some_iff.1 he).1
    exact h2 i o e (by rw [List.getElem?_take,if_pos (by rw [hd.fm]; omega)]; exact ho) he
   have hof:∀ (i:Nat) (e:Eff),l[i]? = some e → ∃ o,ops.toList[i]? = some o:=by
    intro i e he
    have hil:=(List.getElem?_eq_some_iff.1 he).1
    exact ⟨_,List.getElem?_eq_getElem (by omega)⟩
   have hlog:LogOk st l:=by
    refine ⟨fun i e he=>?_,fun i j e e' d hi hj hd1 hd2=>?_⟩
    ·obtain ⟨o,ho⟩:=hof i e he
     exact (hstep i o e ho he).fresh
    ·obtain ⟨o,ho⟩:=hof i e hi
     obtain ⟨o',ho'⟩:=hof j e' hj
     have e1:=(hstep i o e ho hi).dst
     have e2:=(hstep j o' e' ho' hj).dst
     exact (hd.dsts i o ho d (by rw [← e1]; exact hd1) j o' ho' (by rw [← e2]; exact hd2)).symm
   refine wp_region_any hE.many ?_
   refine region_late hE hx hok hd hl (by omega) hstep hlog hQ h3.1 h3.2 ops.size _ [] a _ (by simp) (fun i hi=>by simp [hi]) List.nodup_nil (by simp) (by simp) (fun i o _ hi=>?_) ?_
   ·have h0:(Array.replicate ops.size false).getD i false = false:=by
     rw [Array.getD_eq_getD_getElem?,Array.getElem?_replicate]; split <;> rfl
    exact absurd hi (by show ¬ (Array.replicate ops.size false).getD i false = true; rw [h0]; simp)
   ·obtain ⟨F,ρ,hf⟩:=h
    exact ⟨F,ρ,⟨⟨hf.below.below (Below.refl _ _).drew,hf.defers,hf.size,hf.sub,hf.sup,hf.lt,fun t v hv=>(hf.tmps t v hv).mono (w:=w) (w':={ w with drawn:=w.drawn + 1 }) (fun _ h=>h) (fun _ _=>rfl) fun _ _ h=>h,⟨fun o ob L ho hL=>by
     obtain ⟨q1,q2,q3⟩:=hf.heap.obj o ob L ho hL
     exact ⟨q1.mono (w:=w) (w':={ w with drawn:=w.drawn + 1 }) (fun _ h=>h) (fun _ _=>rfl) rfl,q2,q3⟩,hf.heap.sm,hf.heap.apart⟩⟩,hf.dom,hf.pin⟩⟩
theorem X_sound {E:Env} (hE:E.Ok) {n:Nat}:∀ (c:Code) (st:St) (Q:Exit → St → Prop),codeOk E.M n c = true → X E n c st Q → ∀ w0 F0 a w,Ctx E w0 F0 → Fits w0 F0 n st a w → c.wp E.P (conc w0 F0 n Q) a w
 | .skip,st,Q,_,h,w0,F0,a,w,hx,hf=>wp_skip ⟨st,h,hf⟩
 | .region id ops d,st,Q,hok,h,w0,F0,a,w,hx,hf=>region_sound hE hx hok h hf
 | .seq c1 c2,st,Q,hok,h,w0,F0,a,w,hx,hf=>by
  simp only [codeOk,Bool.and_eq_true] at hok
  refine wp_seq (wp_mono (X_sound hE c1 st _ hok.1 h w0 F0 a w hx hf) ?_)
  rintro e a' w' ⟨s,hs,hf'⟩
  cases e with
  | normal=>exact X_sound hE c2 s Q hok.2 hs w0 F0 a' w' hx hf'
  | exit i=>exact ⟨s,hs,hf'⟩
  | goto i=>exact ⟨s,hs,hf'⟩
  | ret=>exact ⟨s,hs,hf'⟩
  | panic c=>exact ⟨s,hs,hf'⟩
  | outgrown=>exact ⟨s,hs,hf'⟩
 | .cond c t e,st,Q,hok,h,w0,F0,a,w,hx,hf=>by
  simp only [codeOk,Bool.and_eq_true] at hok
  simp only [X] at h
  split at h
  ·rename_i b hb
   obtain ⟨F,ρ,hfit⟩:=hf
   have hc:a.eval c = .bool b:=by
    have hp:=hfit.pre hx ({ (default:Oper) with op:=.move c })
    exact (hp.ev (x:=c) (by simp [Op.operands]) hb).bool_inv
   cases b with
   | true=>exact wp_cond_true hc (X_sound hE t st Q hok.1 (h.1 rfl) w0 F0 a w hx ⟨F,ρ,hfit⟩)
   | false=>exact wp_cond_false hc (X_sound hE e st Q hok.2 (h.2 rfl) w0 F0 a w hx ⟨F,ρ,hfit⟩)
  ·exact h.elim
 | .block id c,st,Q,hok,h,w0,F0,a,w,hx,hf=>by
  refine wp_block (wp_mono (X_sound hE c st _ hok h w0 F0 a w hx hf) ?_)
  rintro e a' w' ⟨s,hs,hf'⟩
  cases e with
  | exit i =>
   simp only [blockX] at hs
   simp only [Exit.inBlock]
   split at hs
   ·rename_i hi; rw [if_pos hi]; exact ⟨s,hs,hf'⟩
   ·rename_i hi; rw [if_neg hi]; exact ⟨s,hs,hf'⟩
  | normal=>exact ⟨s,hs,hf'⟩
  | goto i=>exact ⟨s,hs,hf'⟩
  | ret=>exact ⟨s,hs,hf'⟩
  | panic c=>exact ⟨s,hs,hf'⟩
  | outgrown=>exact ⟨s,hs,hf'⟩
 | .loop c,st,Q,_,h,w0,F0,a,w,hx,hf=>h w0 F0 a w hx hf
 | .exit id,st,Q,_,h,w0,F0,a,w,hx,hf=>wp_exit ⟨st,h,hf⟩
 | .ret,st,Q,_,h,w0,F0,a,w,hx,hf=>wp_ret ⟨st,h,hf⟩
 | .rangeFunc ..,st,Q,_,h,w0,F0,a,w,hx,hf=>h.elim
 | .scope ..,st,Q,_,h,w0,F0,a,w,hx,hf=>h.elim
 | .label ..,st,Q,_,h,w0,F0,a,w,hx,hf=>h.elim
 | .goto ..,st,Q,_,h,w0,F0,a,w,hx,hf=>h.elim
 | .refuse ..,st,Q,_,h,w0,F0,a,w,hx,hf=>h.elim
theorem exists_least {p:Nat → Prop}:∀ n,p n → ∃ m,p m ∧ ∀ k,p k → m ≤ k:=by
 intro n
 induction n using Nat.strongRecOn with
 | _ n ih =>
  intro hn
  by_cases h:∃ k,k < n ∧ p k
  ·obtain ⟨k,hk,hp⟩:=h
   exact ih k hk hp
  ·exact ⟨n,hn,fun k hk=>by
    rcases Nat.lt_or_ge k n with hlt | hge
    ·exact absurd ⟨k,hlt,hk⟩ h
    ·exact hge⟩
open Classical in
noncomputable def leastOr (p:Nat → Prop):Nat:=if h:∃ n,p n then Classical.choose (exists_least h.choose h.choose_spec) else 0
theorem leastOr_spec {p:Nat → Prop} {n:Nat} (h:p n):p (leastOr p) ∧ leastOr p ≤ n:=by
 have hex:∃ n,p n:=⟨n,h⟩
 unfold leastOr
 rw [dif_pos hex]
 have:=Classical.choose_spec (exists_least hex.choose hex.choose_spec)
 exact ⟨this.1,this.2 n h⟩
theorem XL_intro {E:Env} (hE:E.Ok) {n:Nat} {c:Code} {st:St} {Q:Exit → St → Prop} {ι:Type} (I:ι → St) (μ:ι → Nat) (i0:ι) (h0:Le st (I i0)) (hok:codeOk E.M n c = true)
  (step:∀ i,X E n c (I i) (thenX (fun s=>∃ i',μ i' < μ i ∧ Le s (I i')) Q)):XL E n c st Q:=by
 intro w0 F0 a w hx hf
 refine wp_loop (fun a w=>∃ i,Fits w0 F0 n (I i) a w) (fun a w=>leastOr fun k=>∃ i,μ i = k ∧ Fits w0 F0 n (I i) a w) ⟨i0,hf.le h0⟩ ?_
 rintro a w ⟨i1,hi1⟩
 obtain ⟨⟨i,hi,hfi⟩,-⟩:=leastOr_spec (p:=fun k=>∃ i,μ i = k ∧ Fits w0 F0 n (I i) a w) ⟨i1,rfl,hi1⟩
 refine wp_mono (X_sound hE c (I i) _ hok (step i) w0 F0 a w hx hfi) ?_
 rintro e a' w' ⟨s,hs,hf'⟩
 cases e with
 | normal =>
  obtain ⟨i',hlt,hle⟩:=hs
  have hfi':=hf'.le hle
  refine ⟨⟨i',hfi'⟩, ?_⟩
  have:=(leastOr_spec (p:=fun k=>∃ i,μ i = k ∧ Fits w0 F0 n (I i) a' w') ⟨i',rfl,hfi'⟩).2
  omega
 | exit i=>exact ⟨s,hs,hf'⟩
 | goto i=>exact ⟨s,hs,hf'⟩
 | ret=>exact ⟨s,hs,hf'⟩
 | panic c=>exact ⟨s,hs,hf'⟩
 | outgrown=>exact ⟨s,hs,hf'⟩
end Go.Vai
