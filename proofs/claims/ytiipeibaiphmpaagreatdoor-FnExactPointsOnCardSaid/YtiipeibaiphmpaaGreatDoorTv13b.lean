/- Texts of this claim: Zv13b. -/
import Derived.Test.YtiipeibaiphmpaaGreatDoorTv13
set_option linter.unusedVariables false
set_option linter.unusedSimpArgs false
namespace Go.Vai
def HLe (H H':List (Nat × Obj)):Prop:=∀ id ob,look H id = some ob → ∃ ob',look H' id = some ob' ∧ ob'.sz = ob.sz ∧ ∀ (e:Nat) (el:List IV),ob.els[e]? = some el → ob'.els[e]? = some el
def bare (S:List Nat) (H:List (Nat × Obj)):List (Nat × Obj):=H.map fun p=>if S.contains p.1 then (p.1,⟨p.2.sz,[]⟩) else p
theorem look_bare (S:List Nat):∀ (H:List (Nat × Obj)) (id:Nat),look (bare S H) id = (look H id).map fun ob=>if S.contains id then ⟨ob.sz,[]⟩ else ob
 | [],id=>rfl
 | (i,ob) :: H,id=>by
  have ih:=look_bare S H id
  simp only [bare,List.map_cons] at ih ⊢
  by_cases hs:S.contains i = true
  ·rw [if_pos hs,look_cons,look_cons]
   by_cases hi:i = id
   ·subst hi; rw [if_pos rfl,if_pos rfl]; simp only [Option.map_some]; rw [if_pos hs]
   ·rw [if_neg hi,if_neg hi]; exact ih
  ·rw [if_neg hs,look_cons,look_cons]
   by_cases hi:i = id
   ·subst hi; rw [if_pos rfl,if_pos rfl]; simp only [Option.map_some]; rw [if_neg hs]
   ·rw [if_neg hi,if_neg hi]; exact ih
theorem evA_mono {E:Env} {T T':List (Nat × AV)} {x:Operand} {v:AV} (hT:∀ t u,x = .tmp t → look T t = some u → look T' t = some u) (h:evA E T x = some v):evA E T' x = some v:=by
 cases x with
 | tmp t =>
  obtain ⟨u,hu,rfl⟩:=Option.map_eq_some_iff.1 h
  exact Option.map_eq_some_iff.2 ⟨u,hT t u rfl hu,rfl⟩
 | const c=>exact h
 | global g=>exact h
 | func f=>exact h
theorem evM_mono {E:Env} {T T':List (Nat × AV)} {x:Operand} {v:AV} (hT:∀ t u,x = .tmp t → look T t = some u → look T' t = some u) (h:evM E T x = some v):evM E T' x = some v:=by
 cases x with
 | tmp t=>exact hT t v rfl h
 | const c=>exact h
 | global g=>exact h
 | func f=>exact h
theorem cellsAt_mono {ob ob':Obj} (h:∀ (e:Nat) (el:List IV),ob.els[e]? = some el → ob'.els[e]? = some el) {e j n:Nat} {cs:List IV} (hc:cellsAt ob e j n = some cs):cellsAt ob' e j n = some cs:=by
 unfold cellsAt at hc ⊢
 split at hc
 ·rename_i el he
  rw [h e el he]; exact hc
 ·simp at hc
theorem loadA_mono {E:Env} {H H':List (Nat × Obj)} (hH:HLe H H') {t:TypeId} {v r:AV} (h:loadA E H t v = some r):loadA E H' t v = some r:=by
 unfold loadA at h ⊢
 split at h
 ·simp at h
 ·rename_i i hi
  split at h
  ·split at h
   ·rename_i ob hob
    obtain ⟨ob',h1,h2,h3⟩:=hH _ ob hob
    split at h
    ·rename_i cs hcs
     simp only [h1,cellsAt_mono h3 hcs]; exact h
    ·simp at h
   ·simp at h
  ·exact h
  ·exact h
  ·simp at h
theorem indexAddrA_mono {E:Env} {H H':List (Nat × Obj)} (hH:HLe H H') {t:TypeId} {x ix r:AV} (h:indexAddrA E H t x ix = some r):indexAddrA E H' t x ix = some r:=by
 unfold indexAddrA at h ⊢
 split at h
 ·rename_i k i
  split at h
  ·simp at h
  ·rename_i hi
   rw [if_neg hi]
   split at h
   ·rename_i elem hk
    split at h
    ·rename_i ei he
     split at h
     ·rename_i o off len
      split at h
      ·rename_i ob hob
       obtain ⟨ob',h1,h2,h3⟩:=hH _ ob hob
       simp only [h1,h2]; exact h
      ·simp at h
     ·exact h
     ·simp at h
    ·simp at h
   ·exact h
   ·simp at h
 ·simp at h
theorem sliceA_mono {E:Env} {H H':List (Nat × Obj)} (hH:HLe H H') {t:TypeId} {x r:AV} {lo hi mx:Option AV} (h:sliceA E H t x lo hi mx = some r):sliceA E H' t x lo hi mx = some r:=by
 unfold sliceA at h ⊢
 cases mx with
 | some m=>exact h
 | none =>
  simp only at h ⊢
  split at h
  ·rename_i e he
   split at h
   ·rename_i ei hei
    split at h
    ·rename_i o off len
     split at h
     ·rename_i ob l hh hob hl hh'
      obtain ⟨ob',h1,h2,h3⟩:=hH _ ob hob
      simp only [h1,hl,hh',h2]; exact h
     ·simp at h
    ·exact h
    ·exact h
    ·simp at h
   ·simp at h
  ·exact h
  ·simp at h
theorem evO_mono {E:Env} {T T':List (Nat × AV)} {x:Option Operand} {v:Option AV} (ev:∀ y u,x = some y → evA E T y = some u → evA E T' y = some u) (h:evO E T x = some v):evO E T' x = some v:=by
 cases x with
 | none=>exact h
 | some y =>
  simp only [evO,Option.map_eq_some_iff] at h ⊢
  obtain ⟨a,h1,h2⟩:=h
  exact ⟨a,ev y a rfl h1,h2⟩
theorem qpure_mono {E:Env} {T T':List (Nat × AV)} {H H':List (Nat × Obj)} {op:Op} {r:AV} (hc:lateMem op = true) (hT:∀ t u,.tmp t ∈ op.operands → look T t = some u → look T' t = some u) (hH:HLe H H')
  (h:qpure E T H op = some r):qpure E T' H' op = some r:=by
 have ev:∀ x v,x ∈ op.operands → evA E T x = some v → evA E T' x = some v:=fun x v hx hv=>evA_mono (fun t u e hu=>hT t u (by rw [← e]; exact hx) hu) hv
 cases op <;> simp only [lateMem,lateOp] at hc <;> (try (simp at hc; done)) <;> simp only [qpure] at h ⊢
 case move x=>exact evM_mono (fun t u e hu=>hT t u (by rw [← e]; simp [Op.operands]) hu) h
 case assign x=>exact evM_mono (fun t u e hu=>hT t u (by rw [← e]; simp [Op.operands]) hu) h
 case pick c a b =>
  split at h <;> (try (simp at h; done))
  rename_i t hcv
  rw [ev c _ (by simp [Op.operands]) hcv]
  simp only
  split at h
  ·rename_i ht; rw [if_pos ht]; exact ev a r (by simp [Op.operands]) h
  ·rename_i ht; rw [if_neg ht]; exact ev b r (by simp [Op.operands]) h
 case binOp o t x y yt =>
  split at h <;> (try (simp at h; done))
  ·rename_i a b ha hb
   rw [ev x _ (by simp [Op.operands]) ha,ev y _ (by simp [Op.operands]) hb]; exact h
  ·rename_i a ha hb
   rw [ev x _ (by simp [Op.operands]) ha,ev y _ (by simp [Op.operands]) hb]
   cases a <;> exact h
  ·rename_i a b hne hne2 ha hb
   rw [ev x _ (by simp [Op.operands]) ha,ev y _ (by simp [Op.operands]) hb]
   cases a <;> cases b <;> first | exact h | exact (hne _ _ rfl rfl).elim | exact (hne2 rfl).elim
 case unOp o t x =>
  split at h <;> (try (simp at h; done))
  rename_i v hv
  rw [ev x _ (by simp [Op.operands]) hv]; exact h
 case convert s d x =>
  split at h <;> (try (simp at h; done))
  rename_i v hv
  rw [ev x _ (by simp [Op.operands]) hv]; exact h
 case fieldAddr s x f =>
  split at h <;> (try (simp at h; done))
  rename_i v hv
  rw [ev x _ (by simp [Op.operands]) hv]; exact h
 case indexAddr t x ix =>
  split at h <;> (try (simp at h; done))
  rename_i v i hv hi
  rw [ev x _ (by simp [Op.operands]) hv,ev ix _ (by simp [Op.operands]) hi]; exact indexAddrA_mono hH h
 case field s x f =>
  split at h <;> (try (simp at h; done))
  rename_i v hv
  rw [ev x _ (by simp [Op.operands]) hv]; exact h
 case extract x ix =>
  split at h <;> (try (simp at h; done))
  rename_i v hv
  rw [ev x _ (by simp [Op.operands]) hv]; exact h
 case load t x =>
  split at h <;> (try (simp at h; done))
  rename_i v hv
  rw [ev x _ (by simp [Op.operands]) hv]; exact loadA_mono hH h
 case slice t x lo hi mx =>
  split at h <;> (try (simp at h; done))
  rename_i v l hh m hv hl hhv hm
  rw [ev x _ (by simp [Op.operands]) hv,evO_mono (fun y u e hu=>ev y u (by subst e; simp [Op.operands]) hu) hl,evO_mono (fun y u e hu=>ev y u (by subst e; simp [Op.operands]) hu) hhv,
   evO_mono (fun y u e hu=>ev y u (by subst e; simp [Op.operands]) hu) hm]
  exact sliceA_mono hH h
 case call c =>
  obtain ⟨callee,xs,ts⟩:=c
  cases callee <;> (try (simp [lateMem,lateOp] at hc; done))
  rename_i b
  cases b <;> (try (simp [lateMem,lateOp] at hc; done))
  simp only [qpure] at h ⊢
  unfold callA at h ⊢
  split at h <;> (try (simp at h; done)) <;> (try contradiction)
  rename_i t x e0 e1 e2
  have hx:x ∈ Op.operands (.call ⟨.builtin .len,xs,ts⟩):=by
   have:x ∈ xs:=by rw [← Array.mem_toList_iff,e2]; simp
   simp [Op.operands,Call.operands,this]
  split at h <;> (try (simp at h; done))
  rename_i v hv
  simp only [e1,e2,ev x _ hx hv]; exact h
theorem storeA_mono {E:Env} {A C C':St} {t:TypeId} {va vv:AV} (hH:∀ id,look A.H id = look C.H id) (h:storeA E C t va vv = some C') :
  ∃ id e j ob',va = .ptr id e j ∧ (look C.H id).isSome = true ∧ C' = ⟨C.T,setH id ob' C.H⟩ ∧ storeA E A t va vv = some ⟨A.T,setH id ob' A.H⟩:=by
 unfold storeA at h ⊢
 split at h <;> (try (simp at h; done))
 rename_i id e j
 split at h <;> (try (simp at h; done))
 rename_i ob hob
 split at h <;> (try (simp at h; done))
 rename_i cs hcs
 split at h <;> (try (simp at h; done))
 rename_i i hi
 split at h <;> (try (simp at h; done))
 rename_i el hel
 split at h <;> (try (simp at h; done))
 rename_i hc
 obtain rfl:=Option.some.inj h
 refine ⟨id,e,j,_,rfl,by rw [hob]; rfl,rfl, ?_⟩
 simp only [hH id,hob,hcs,hi,hel,if_pos hc]
def XRS (E:Env) (S:List Nat):List Oper → St → (St → Prop) → Prop
 | [],st,K=>K st
 | o :: os,st,K=>match isStore o.op with
  | some (t,x,y)=>match evA E st.T x,evA E st.T y with
   | some va,some vv=>(match va with
     | .ptr id _ _=>S.contains id = true
     | _=>False) ∧ match storeA E st t va vv with
    | some st'=>XRS E S os st' K
    | none=>False
   | _,_=>False
  | none=>match qpure E st.T st.H o.op with
   | some v=>XRS E S os (st.eff o.dst v []) K
   | none=>False
def LateC (E:Env) (S:List Nat) (ops:Array Oper) (st:St):List Nat → Prop
 | []=>True
 | j :: J=>(match ops[j]? with
  | some o=>match o.dst with
   | some d=>match qpure E st.T (bare S st.H) o.op with
    | some v=>look st.T d = some v
    | none=>False
   | none=>False
  | none=>False) ∧ LateC E S ops st J
theorem LateC_mem {E:Env} {S:List Nat} {ops:Array Oper} {st:St}:∀ {J:List Nat},LateC E S ops st J → ∀ j ∈ J,∃ o d v,ops[j]? = some o ∧ o.dst = some d ∧ qpure E st.T (bare S st.H) o.op = some v ∧ look st.T d = some v
 | [],_,j,h=>by simp at h
 | i :: J,hl,j,h=>by
  simp only [LateC] at hl
  rcases List.mem_cons.1 h with rfl | h
  ·have h1:=hl.1
   split at h1 <;> (try exact h1.elim)
   rename_i o ho
   split at h1 <;> (try exact h1.elim)
   rename_i d hd
   split at h1 <;> (try exact h1.elim)
   rename_i v hv
   exact ⟨o,d,v,ho,hd,hv,h1⟩
  ·exact LateC_mem hl.2 j h
theorem LateC_of {E:Env} {S:List Nat} {ops:Array Oper} {st:St}:∀ {J:List Nat},(∀ j ∈ J,∃ o d v,ops[j]? = some o ∧ o.dst = some d ∧ qpure E st.T (bare S st.H) o.op = some v ∧ look st.T d = some v) → LateC E S ops st J
 | [],_=>trivial
 | i :: J,h=>by
  refine ⟨?_,LateC_of fun j hj=>h j (by simp [hj])⟩
  obtain ⟨o,d,v,h1,h2,h3,h4⟩:=h i (by simp)
  simp only [h1,h2,h3]; exact h4
def okLate (M:List FuncId) (os:List Oper) (m:Nat) (J:List Nat):Bool :=
 let ms:=masks os
 firstMut M os == m && noSel os && J.all (fun j=>decide (j < m)) && (List.range os.length).all fun i=>match os[i]? with
  | none=>true
  | some o =>
   (o.after.toList.all fun e=>!Region.binds .any e || decide (e.on < i)) &&
   ((opTmps o ++ gdTmps os o).all fun t=>(List.range os.length).all fun j=>match os[j]? with
    | some p=>p.dst != some t || (decide (j < i) && (ms.getD i 0).testBit j)
    | none=>true) &&
   (match o.dst with
    | some d=>(List.range os.length).all fun j=>j == i || match os[j]? with
     | some p=>p.dst != some d
     | none=>true
    | none=>true) &&
   (if i < m then !J.contains i || (o.guard.isNone && lateMem o.op)
   else o.guard.isNone && (((isStore o.op).isSome && o.dst.isNone) || lateMem o.op) && (List.range i).all fun j=>(ms.getD i 0).testBit j || (decide (j < m) && J.contains j))
structure OkLate (M:List FuncId) (os:List Oper) (m:Nat) (J:List Nat):Prop where
 fm:firstMut M os = m
 sel:noSel os = true
 small:∀ j ∈ J,j < m
 edge:∀ (i:Nat) (o:Oper),os[i]? = some o → ∀ e ∈ o.after.toList,Region.binds .any e = true → e.on < i
 names:∀ (i:Nat) (o:Oper),os[i]? = some o → ∀ t ∈ opTmps o ++ gdTmps os o,∀ (j:Nat) (p:Oper),os[j]? = some p → p.dst = some t → j < i ∧ ((masks os).getD i 0).testBit j = true
 dsts:∀ (i:Nat) (o:Oper),os[i]? = some o → ∀ d,o.dst = some d → ∀ (j:Nat) (p:Oper),os[j]? = some p → p.dst = some d → j = i
 late:∀ (i:Nat) (o:Oper),os[i]? = some o → i < m → i ∈ J → o.guard = none ∧ lateMem o.op = true
 rest:∀ (i:Nat) (o:Oper),os[i]? = some o → m ≤ i → o.guard = none ∧ (((isStore o.op).isSome = true ∧ o.dst = none) ∨ lateMem o.op = true) ∧ ∀ j,j < i → ((masks os).getD i 0).testBit j = true ∨ (j < m ∧ j ∈ J)
theorem okLate_spec {M:List FuncId} {os:List Oper} {m:Nat} {J:List Nat} (h:okLate M os m J = true):OkLate M os m J:=by
 unfold okLate at h
 simp only [Bool.and_eq_true,beq_iff_eq] at h
 obtain ⟨⟨⟨hm,hs⟩,hJ⟩,h⟩:=h
 have key:∀ i o,os[i]? = some o → _:=fun i o ho=>by
  have:=List.all_eq_true.1 h i (List.mem_range.2 (List.getElem?_eq_some_iff.1 ho).1)
  rw [ho] at this
  simp only [Bool.and_eq_true] at this
  exact this
 have lt:∀ {j:Nat} {p:Oper},os[j]? = some p → j < os.length:=fun hp=>(List.getElem?_eq_some_iff.1 hp).1
 refine ⟨hm,hs,fun j hj=>by simpa using List.all_eq_true.1 hJ j hj,fun i o ho e he hb=>?_,fun i o ho t ht j p hp hd=>?_,fun i o ho d hd j p hp hpd=>?_,fun i o ho hi hj=>?_,fun i o ho hi=>?_⟩
 ·have:=List.all_eq_true.1 (key i o ho).1.1.1 e he
  simpa [hb] using this
 ·have:=List.all_eq_true.1 (List.all_eq_true.1 (key i o ho).1.1.2 t ht) j (List.mem_range.2 (lt hp))
  rw [hp] at this
  simpa [hd] using this
 ·have h2:=(key i o ho).1.2
  rw [hd] at h2
  have:=List.all_eq_true.1 h2 j (List.mem_range.2 (lt hp))
  rw [hp] at this
  simpa [hpd] using this
 ·have h2:=(key i o ho).2
  rw [if_pos hi] at h2
  have hc:J.contains i = true:=by simpa using hj
  rw [hc] at h2
  simpa using h2
 ·have h2:=(key i o ho).2
  rw [if_neg (by omega)] at h2
  simp only [Bool.and_eq_true,Bool.or_eq_true,Option.isNone_iff_eq_none] at h2
  refine ⟨h2.1.1,h2.1.2,fun j hj=>?_⟩
  have:=List.all_eq_true.1 h2.2 j (List.mem_range.2 hj)
  simpa using this
structure Rel (ops:Array Oper) (m:Nat) (J:List Nat) (σ:List Nat) (A C:St):Prop where
 T:∀ t v,look C.T t = some v → look A.T t = some v ∨ ∃ j o,j ∈ J ∧ j < m ∧ j ∉ σ ∧ ops[j]? = some o ∧ o.dst = some t
 H:∀ id,look A.H id = look C.H id
theorem look_setH' {H:List (Nat × Obj)} {o:Nat} {ob:Obj} (h:(look H o).isSome = true) (t:Nat):look (setH o ob H) t = if o = t then some ob else look H t:=look_setH o ob H t h
theorem HLe.of_eq {H H':List (Nat × Obj)} (h:∀ id ob,look H id = some ob → look H' id = some ob):HLe H H':=fun id ob ho=>⟨ob,h id ob ho,rfl,fun _ _ h=>h⟩
theorem HLe.of_bare {S:List Nat} {H H':List (Nat × Obj)} (h:∀ id,look H' id = look H id):HLe (bare S H) H':=by
 intro id ob ho
 rw [look_bare] at ho
 obtain ⟨ob',h1,h2⟩:=Option.map_eq_some_iff.1 ho
 refine ⟨ob',by rw [h]; exact h1, ?_,fun e el he=>?_⟩
 ·subst h2; split <;> rfl
 ·subst h2
  split at he
  ·simp at he
  ·exact he
theorem HLe.set_bare {S:List Nat} {H:List (Nat × Obj)} {id:Nat} {ob':Obj} (hid:S.contains id = true) (hs:(look H id).isSome = true) (hz:∀ ob,look H id = some ob → ob'.sz = ob.sz):HLe (bare S H) (bare S (setH id ob' H)):=by
 intro i ob ho
 rw [look_bare] at ho
 obtain ⟨o1,h1,h2⟩:=Option.map_eq_some_iff.1 ho
 rw [look_bare,look_setH' hs]
 by_cases hi:id = i
 ·subst hi
  rw [if_pos rfl]
  simp only [Option.map_some,hid,if_true] at h2 ⊢
  subst h2
  exact ⟨_,rfl,hz o1 h1,fun e el he=>by simp at he⟩
 ·rw [if_neg hi,h1]
  exact ⟨_,rfl,by rw [← h2],fun e el he=>by rw [← h2] at he; exact he⟩
theorem storeA_sz {E:Env} {C C':St} {t:TypeId} {vv:AV} {id e j:Nat} (h:storeA E C t (.ptr id e j) vv = some C'):∃ ob',C' = ⟨C.T,setH id ob' C.H⟩ ∧ ∀ ob,look C.H id = some ob → ob'.sz = ob.sz:=by
 unfold storeA at h
 simp only at h
 split at h <;> (try (simp at h; done))
 rename_i ob hob
 split at h <;> (try (simp at h; done))
 split at h <;> (try (simp at h; done))
 split at h <;> (try (simp at h; done))
 split at h <;> (try (simp at h; done))
 obtain rfl:=Option.some.inj h
 refine ⟨_,rfl,fun o ho=>?_⟩
 rw [hob] at ho
 obtain rfl:=Option.some.inj ho
 rfl
theorem late_phase {E:Env} (hE:E.Ok) {w0:Base} {F0:Nat → Prop} {n:Nat} (hx:Ctx E w0 F0) {ops:Array Oper} (hdst:dstOk n ops = true) {m:Nat} {J S:List Nat} (hok:OkLate E.M ops.toList m J) (hml:m ≤ ops.size)
  {Q:Exit → Act → World → Prop} {K:St → Prop} (hQ:∀ st a w,K st → Fits w0 F0 n st a w → Q .normal a w) :
  ∀ (fuel:Nat) (listed:Array Bool) (σ:List Nat) (k:Nat) (A C:St) (a:Act) (w:World),listed.size = ops.size → (∀ i,i < ops.size → (listed.getD i false = true ↔ i ∈ σ)) → σ.Nodup → (∀ i ∈ σ,i < ops.size) →
   ops.size ≤ fuel + σ.length → Closed ops.toList (fun i=>listed.getD i false = true) → m ≤ k → k ≤ ops.size → (∀ i,m ≤ i → i < ops.size → (i ∈ σ ↔ i < k)) → (∀ i,i < m → i ∉ J → i ∈ σ) →
   Fits w0 F0 n A a w → Rel ops m J σ A C → LateC E S ops C J → XRS E S (ops.toList.drop k) C K → wpAny E.P .any ops Q fuel listed a w:=by
 have hgood:GoodMasks ops.toList (masks ops.toList):=masksGo_good ops.toList _ [] (by simp) fun i S _ _ j hj=>by simp at hj
 have fin:∀ (listed:Array Bool) (σ:List Nat) (k:Nat) (A C:St) (a:Act) (w:World),(∀ i,i < ops.size → i ∈ σ) → k ≤ ops.size → (∀ i,m ≤ i → i < ops.size → (i ∈ σ ↔ i < k)) → m ≤ k →
   Fits w0 F0 n A a w → Rel ops m J σ A C → XRS E S (ops.toList.drop k) C K → Q .normal a w:=by
  intro listed σ k A C a w hall hk hkk hmk hf hr hX
  have hke:k = ops.size:=by
   rcases Nat.lt_or_ge k ops.size with hlt | hge
   ·have:=(hkk k hmk hlt).1 (hall k hlt); omega
   ·omega
  rw [hke,List.drop_of_length_le (by simp)] at hX
  refine hQ C a w hX (hf.congr (fun t v hv=>?_) (fun id=>(hr.H id).symm))
  rcases hr.T t v hv with h | ⟨j,o,hj,hjm,hjn,ho,hd⟩
  ·exact h
  ·exact (hjn (hall j (Array.getElem?_eq_some_iff.1 ho).1)).elim
 intro fuel
 induction fuel with
 | zero =>
  intro listed σ k A C a w hsz hl hσ hσl hf hcl hmk hk hkk hq hfit hrel hlate hX
  have hall:∀ i,i < ops.size → i ∈ σ:=all_below hσ hσl (by omega)
  refine ⟨?_,fin listed σ k A C a w hall hk hkk hmk hfit hrel hX⟩
  apply List.eq_nil_iff_forall_not_mem.2
  intro j hj
  obtain ⟨h1,o,ho,-⟩:=mem_ready.1 hj
  have hjl:=(Array.getElem?_eq_some_iff.1 ho).1
  rw [getD_bool (by omega),((hl j hjl).2 (hall j hjl))] at h1
  simp at h1
 | succ fuel ih =>
  intro listed σ k A C a w hsz hl hσ hσl hf hcl hmk hk hkk hq hfit hrel hlate hX
  refine ⟨fun hr=>?_,fun i hi=>?_⟩
  ·have hall:∀ i,i < ops.size → listed.getD i false = true:=by
    intro i
    induction i using Nat.strongRecOn with
    | _ i ihi =>
     intro hi
     cases hq:listed.getD i false with
     | true=>rfl
     | false =>
      exfalso
      have ho:ops[i]? = some ops[i]:=Array.getElem?_eq_getElem hi
      have:i ∈ Region.ready .any ops listed:=by
       refine mem_ready.2 ⟨by rw [getD_bool (by omega)]; exact hq,ops[i],ho,fun e he hb=>?_⟩
       have:=hok.edge i ops[i] (by rw [Array.getElem?_toList]; exact ho) e (by simpa using he) hb
       exact ihi e.on this (by omega)
      rw [hr] at this; simp at this
   exact fin listed σ k A C a w (fun i hi=>(hl i hi).1 (hall i hi)) hk hkk hmk hfit hrel hX
  ·obtain ⟨h1,o,ho,hpre⟩:=mem_ready.1 hi
   have hil:=(Array.getElem?_eq_some_iff.1 ho).1
   have hoL:ops.toList[i]? = some o:=by simpa using ho
   rw [getD_bool (by omega)] at h1
   have hiσ:i ∉ σ:=fun hm=>by rw [(hl i hil).2 hm] at h1; simp at h1
   have hS:Closed ops.toList (fun j=>listed.getD j false = true ∨ j = i):=by
    intro j o' ho' hj e he hb
    rcases hj with hj | rfl
    ·exact .inl (hcl j o' ho' hj e he hb)
    ·rw [hoL] at ho'
     obtain rfl:=Option.some.inj ho'
     exact .inl (hpre e (by simpa using he) hb)
   have hbefore:∀ j,j ≠ i → ((masks ops.toList).getD i 0).testBit j = true → listed.getD j false = true:=by
    intro j hj hb
    rcases hgood i _ hS (.inr rfl) j hb with h2 | h2
    ·exact h2
    ·exact absurd h2 hj
   have hnames:∀ t ∈ opTmps o ++ gdTmps ops.toList o,∀ v,look C.T t = some v → look A.T t = some v:=by
    intro t ht v hv
    rcases hrel.T t v hv with h | ⟨j,o',hj,hjm,hjn,ho',hd⟩
    ·exact h
    ·exfalso
     obtain ⟨hji,hbit⟩:=hok.names i o hoL t ht j o' (by simpa using ho') hd
     exact hjn ((hl j (by omega)).1 (hbefore j (by omega) hbit))
   have hopT:∀ t u,.tmp t ∈ o.op.operands → look C.T t = some u → look A.T t = some u:=fun t u ht hu =>
    hnames t (List.mem_append.2 (.inl (List.mem_filterMap.2 ⟨.tmp t,by simpa using ht,rfl⟩))) u hu
   have hg:o.guard = none:=by
    rcases Nat.lt_or_ge i m with him | him
    ·refine (hok.late i o hoL him ?_).1
     by_cases hJ:i ∈ J
     ·exact hJ
     ·exact (hiσ (hq i him hJ)).elim
    ·exact (hok.rest i o hoL him).1
   have hw:Region.wanted o (yielded ops a.tmps) = true:=by simp [Region.wanted,hg]
   have hlisted:(listed.setIfInBounds i true).size = ops.size ∧ (∀ j,j < ops.size → ((listed.setIfInBounds i true).getD j false = true ↔ j ∈ σ ++ [i])) ∧ (σ ++ [i]).Nodup ∧ (∀ j ∈ σ ++ [i],j < ops.size) ∧
     ops.size ≤ fuel + (σ ++ [i]).length ∧ Closed ops.toList (fun j=>(listed.setIfInBounds i true).getD j false = true):=by
    refine ⟨by simp [hsz],fun j hj=>?_, ?_,fun j hj=>?_,by simp; omega, ?_⟩
    ·by_cases hij:i = j
     ·subst hij; simp [hsz,hil]
     ·rw [getD_set_ne false hij,hl j hj]
      rw [List.mem_append]
      exact ⟨fun h=>.inl h,fun h=>h.elim id fun h=>absurd (List.mem_singleton.1 h).symm hij⟩
    ·rw [List.nodup_append]
     exact ⟨hσ,by simp,fun x hx y hy=>by simp at hy; subst hy; intro hxy; subst hxy; exact hiσ hx⟩
    ·rcases List.mem_append.1 hj with hj | hj
     ·exact hσl j hj
     ·simp at hj; subst hj; exact hil
    ·intro j o' ho' hj e' he' hb
     have:=hS j o' ho' (by
      by_cases hij:i = j
      ·exact .inr hij.symm
      ·rw [getD_set_ne false hij] at hj; exact .inl hj) e' he' hb
     rcases this with h2 | h2
     ·exact getD_set_true h2
     ·rw [h2]; simp [hsz,hil]
   obtain ⟨l1,l2,l3,l4,l5,l6⟩:=hlisted
   have pureCase:∀ v,lateMem o.op = true → qpure E A.T A.H o.op = some v → ∀ K':Act → World → Prop,(∀ a' w',Fits w0 F0 n (A.eff o.dst v []) a' w' → K' a' w') → wpOp E.P ops Q i K' a w:=by
    intro v _ hv K' hK'
    obtain ⟨F,ρ,hfi⟩:=hfit
    unfold wpOp
    rw [ho]
    simp only
    rw [if_pos hw]
    refine .inl (QOK.pure hE hv F ρ a w (hfi.pre hx o) _ _ fun cv w' F' ρ' hpost=>hK' _ _ ⟨F',ρ', ?_⟩)
    exact hfi.post (dst:=o.dst) hpost (fun id hid=>by simp [look] at hid) (fun d hd=>dstOk_spec hdst (List.mem_of_getElem? hoL) hd)
   rcases Nat.lt_or_ge i m with him | him
   ·-- a late read
    have hJ:i ∈ J:=by
     by_cases hJ:i ∈ J
     ·exact hJ
     ·exact (hiσ (hq i him hJ)).elim
    obtain ⟨o',d,v,ho',hd,hv,hdv⟩:=LateC_mem hlate i hJ
    rw [ho] at ho'
    obtain rfl:=Option.some.inj ho'
    have hlm:=(hok.late i o hoL him hJ).2
    have hvA:=qpure_mono hlm hopT (HLe.of_bare hrel.H) hv
    refine pureCase v hlm hvA _ fun a' w' hf'=>?_
    refine ih _ (σ ++ [i]) k _ C a' w' l1 l2 l3 l4 l5 l6 hmk hk (fun j hj1 hj2=>?_) (fun j hj hjJ=>List.mem_append.2 (.inl (hq j hj hjJ))) hf' ⟨fun t u hu=>?_,fun id=>hrel.H id⟩ hlate hX
    ·rw [List.mem_append,← hkk j hj1 hj2]
     exact ⟨fun h=>h.elim id fun h=>by simp at h; omega,fun h=>.inl h⟩
    ·rw [hd]
     simp only [St.eff,putT,look_cons]
     by_cases htd:d = t
     ·subst htd
      rw [if_pos rfl]
      rw [hdv] at hu; exact .inl hu
     ·rw [if_neg htd]
      rcases hrel.T t u hu with h | ⟨j,o',hj,hjm,hjn,ho',hd'⟩
      ·exact .inl h
      ·refine .inr ⟨j,o',hj,hjm,fun hm=>?_,ho',hd'⟩
       rcases List.mem_append.1 hm with hm | hm
       ·exact hjn hm
       ·simp at hm; subst hm
        rw [ho] at ho'
        obtain rfl:=Option.some.inj ho'
        rw [hd] at hd'
        exact htd (Option.some.inj hd')
   ·-- of the rest
    obtain ⟨-,hkind,hord⟩:=hok.rest i o hoL him
    have hik:i = k:=by
     have hki:k ≤ i:=by
      rcases Nat.lt_or_ge i k with hlt | hge
      ·exact (hiσ ((hkk i him hil).2 hlt)).elim
      ·exact hge
     rcases Nat.lt_or_ge k i with hlt | hge
     ·exfalso
      have hkl:k < ops.size:=by omega
      rcases hord k hlt with hb | ⟨hb,-⟩
      ·have:=(hkk k hmk hkl).1 ((hl k hkl).1 (hbefore k (by omega) hb)); omega
      ·omega
     ·omega
    subst hik
    have hdrop:ops.toList.drop i = o :: ops.toList.drop (i + 1):=by
     rw [List.drop_eq_getElem_cons (by simpa using hil)]
     congr 1
     exact (List.getElem?_eq_some_iff.1 hoL).2
    rw [hdrop] at hX
    simp only [XRS] at hX
    have hkk':∀ j,m ≤ j → j < ops.size → (j ∈ σ ++ [i] ↔ j < i + 1):=fun j hj1 hj2=>by
     rw [List.mem_append,hkk j hj1 hj2]
     simp only [List.mem_singleton]; omega
    have hq':∀ j,j < m → j ∉ J → j ∈ σ ++ [i]:=fun j hj hjJ=>List.mem_append.2 (.inl (hq j hj hjJ))
    have hun:∀ t,(∃ j o,j ∈ J ∧ j < m ∧ j ∉ σ ∧ ops[j]? = some o ∧ o.dst = some t) → ∃ j o,j ∈ J ∧ j < m ∧ j ∉ σ ++ [i] ∧ ops[j]? = some o ∧ o.dst = some t:=by
     rintro t ⟨j,o',hj,hjm,hjn,ho',hd'⟩
     refine ⟨j,o',hj,hjm,fun hm=>?_,ho',hd'⟩
     rcases List.mem_append.1 hm with hm | hm
     ·exact hjn hm
     ·simp at hm; omega
    split at hX
    ·-- a write
     rename_i t x y hst
     have hop:o.op = .store t x y:=by
      cases hq:o.op <;> rw [hq] at hst <;> simp [isStore] at hst
      obtain ⟨rfl,rfl,rfl⟩:=hst; rfl
     have hdn:o.dst = none:=by
      rcases hkind with h | h
      ·exact h.2
      ·rw [hop] at h; simp [lateMem,lateOp] at h
     split at hX <;> (try exact hX.elim)
     rename_i va vv hva hvv
     obtain ⟨hid,hX⟩:=hX
     split at hX <;> (try exact hX.elim)
     rename_i C' hC'
     obtain ⟨id,e,j,ob',rfl,hsome,rfl,hA'⟩:=storeA_mono hrel.H hC'
     obtain ⟨ob2,he2,hsz2⟩:=storeA_sz hC'
     simp only at hid
     have evx:=evA_mono (T':=A.T) (fun t u e hu=>hopT t u (by rw [hop,← e]; simp [Op.operands]) hu) hva
     have evy:=evA_mono (T':=A.T) (fun t u e hu=>hopT t u (by rw [hop,← e]; simp [Op.operands]) hu) hvv
     obtain ⟨F,ρ,hfi⟩:=hfit
     unfold wpOp
     rw [ho]
     simp only
     rw [if_pos hw]
     refine .inl (Oper.wp_mono (fun a' w' hf'=>?_) (storeA_wp hE hx hfi hop hdn evx evy hA' Q))
     have hsA:(look A.H id).isSome = true:=by rw [hrel.H]; exact hsome
     refine ih _ (σ ++ [i]) (i + 1) _ _ a' w' l1 l2 l3 l4 l5 l6 (by omega) (by omega) hkk' hq' hf' ⟨fun t u hu=>?_,fun id'=>?_⟩ ?_ hX
     ·rcases hrel.T t u hu with h | h
      ·exact .inl h
      ·exact .inr (hun t h)
     ·simp only
      rw [look_setH' hsA,look_setH' hsome,hrel.H]
     ·refine LateC_of fun j hj=>?_
      obtain ⟨o',d,v,ho',hd,hv,hdv⟩:=LateC_mem hlate j hj
      have hjm:lateMem o'.op = true:=by
       have hjl:=(Array.getElem?_eq_some_iff.1 ho').1
       rcases Nat.lt_or_ge j m with h | h
       ·exact (hok.late j o' (by simpa using ho') h hj).2
       ·rcases (hok.rest j o' (by simpa using ho') h).2.1 with h2 | h2
        ·rw [hd] at h2; simp at h2
        ·exact h2
      refine ⟨o',d,v,ho',hd,qpure_mono hjm (fun _ _ _ h=>h) ?_ hv,hdv⟩
      rw [he2]
      exact HLe.set_bare hid hsome hsz2
    ·-- a slot
     rename_i hst
     have hlm:lateMem o.op = true:=by
      rcases hkind with h | h
      ·rw [hst] at h; simp at h
      ·exact h
     split at hX <;> (try exact hX.elim)
     rename_i v hv
     have hvA:qpure E A.T A.H o.op = some v:=qpure_mono hlm hopT (HLe.of_eq fun id ob h=>by rw [hrel.H]; exact h) hv
     refine pureCase v hlm hvA _ fun a' w' hf'=>?_
     refine ih _ (σ ++ [i]) (i + 1) (A.eff o.dst v []) (C.eff o.dst v []) a' w' l1 l2 l3 l4 l5 l6 (by omega) (by omega) hkk' hq' hf' ⟨fun t u hu=>?_,fun id'=>hrel.H id'⟩ ?_ hX
     ·cases hd:o.dst with
      | none =>
       rw [hd] at hu
       rcases hrel.T t u hu with h | h
       ·exact .inl h
       ·exact .inr (hun t h)
      | some d =>
       rw [hd] at hu
       simp only [St.eff,putT,look_cons] at hu ⊢
       by_cases htd:d = t
       ·rw [if_pos htd] at hu ⊢; exact .inl hu
       ·rw [if_neg htd] at hu ⊢
        rcases hrel.T t u hu with h | h
        ·exact .inl h
        ·exact .inr (hun t h)
     ·refine LateC_of fun j hj=>?_
      obtain ⟨o',d,u,ho',hd,hv',hdv⟩:=LateC_mem hlate j hj
      have hj':ops.toList[j]? = some o':=by simpa using ho'
      have hjm:=hok.small j hj
      ·have hlm':=(hok.late j o' hj' hjm hj).2
       refine ⟨o',d,u,ho',hd,qpure_mono hlm' (fun t x ht hx'=>?_) (fun id ob h=>⟨ob,h,rfl,fun _ _ h=>h⟩) hv', ?_⟩
       ·cases hod:o.dst with
        | none=>exact hx'
        | some c =>
         simp only [St.eff,putT,look_cons]
         rw [if_neg]
         ·exact hx'
         ·rintro rfl
          have:=(hok.names j o' hj' c (List.mem_append.2 (.inl (List.mem_filterMap.2 ⟨.tmp c,by simpa using ht,rfl⟩))) i o hoL hod).1
          omega
       ·cases hod:o.dst with
        | none=>exact hdv
        | some c =>
         simp only [St.eff,putT,look_cons]
         rw [if_neg]
         ·exact hdv
         ·rintro rfl
          have:=hok.dsts j o' hj' c hd i o hoL hod
          omega
theorem rel_start {E:Env} {ops:Array Oper} {m:Nat} {J:List Nat} (hok:OkLate E.M ops.toList m J) {st0:St} {l:List Eff} (hll:l.length = m)
  (hstep:∀ i o e,ops.toList[i]? = some o → l[i]? = some e → StepOf E ops (effs st0 (l.take i)) o e) (hml:l.length ≤ ops.size) (hlog:LogOk st0 l) {σ:List Nat} (hσ:σ.Nodup) (hσl:∀ i ∈ σ,i < l.length)
  (hq:∀ i,i < m → i ∉ J → i ∈ σ):Rel ops m J σ (effs st0 (pick l σ)) (effs st0 l):=by
 have e:l = pick l (List.range l.length):=by rw [pick_range l l.length (Nat.le_refl _),List.take_length]
 have hof:∀ (j:Nat) (e:Eff),l[j]? = some e → ∃ o:Oper,ops.toList[j]? = some o ∧ StepOf E ops (effs st0 (l.take j)) o e:=by
  intro j e hj
  have hjl:=(List.getElem?_eq_some_iff.1 hj).1
  have hjo:j < ops.toList.length:=by simp; omega
  exact ⟨_,List.getElem?_eq_getElem hjo,hstep j _ e (List.getElem?_eq_getElem hjo) hj⟩
 refine ⟨fun t v hv=>?_,fun id=>?_⟩
 ·by_cases hex:∃ (j:Nat) (x:Eff),l[j]? = some x ∧ x.1 = some t
  ·obtain ⟨j,x,hj,hx⟩:=hex
   have hjl:=(List.getElem?_eq_some_iff.1 hj).1
   by_cases hm:j ∈ σ
   ·refine .inl ?_
    rw [e,look_pick_T hlog hj hx _ (List.mem_range.2 hjl)] at hv
    rw [look_pick_T hlog hj hx σ hm]; exact hv
   ·obtain ⟨o,ho,hs⟩:=hof j x hj
    refine .inr ⟨j,o, ?_,by omega,hm,by simpa using ho,by rw [← hs.dst]; exact hx⟩
    by_cases hJ:j ∈ J
    ·exact hJ
    ·exact (hm (hq j (by omega) hJ)).elim
  ·refine .inl ?_
   have hno:∀ x ∈ l,x.1 ≠ some t:=by
    intro x hx ht
    obtain ⟨k,hk⟩:=List.mem_iff_getElem?.1 hx
    exact hex ⟨k,x,hk,ht⟩
   rw [look_effs_other t _ _ hno] at hv
   rw [look_effs_other t _ _ fun x hx=>by obtain ⟨k,-,hk⟩:=mem_pick.1 hx; exact hno x (List.mem_of_getElem? hk)]
   exact hv
 ·have key:∀ ob,look (effs st0 l).H id = some ob ↔ look (effs st0 (pick l σ)).H id = some ob:=by
   intro ob
   rw [pick_H hlog hσ]
   conv=>lhs; rw [e]
   rw [pick_H hlog List.nodup_range]
   constructor
   ·rintro (h | ⟨j,hj,x,h3,h4⟩)
    ·exact .inl h
    ·by_cases hm:j ∈ σ
     ·exact .inr ⟨j,hm,x,h3,h4⟩
     ·exfalso
      obtain ⟨o,ho,hs⟩:=hof j x h3
      have hjl:=(List.getElem?_eq_some_iff.1 h3).1
      have hJ:j ∈ J:=by
       by_cases hJ:j ∈ J
       ·exact hJ
       ·exact (hm (hq j (by omega) hJ)).elim
      obtain ⟨hg,hlm⟩:=hok.late j o ho (by omega) hJ
      rcases hs.how with ⟨hg2,-,-⟩ | ⟨-,hq2⟩
      ·unfold guardA at hg2; rw [hg] at hg2; simp at hg2
      ·rw [(hq2.2 hlm).2] at h4; simp [look] at h4
   ·rintro (h | ⟨j,hj,x,h3,h4⟩)
    ·exact .inl h
    ·exact .inr ⟨j,List.mem_range.2 (hσl j hj),x,h3,h4⟩
  cases hq1:look (effs st0 (pick l σ)).H id with
  | some ob=>exact ((key ob).2 hq1).symm
  | none =>
   cases hq':look (effs st0 l).H id with
   | none=>rfl
   | some ob=>rw [(key ob).1 hq'] at hq1; simp at hq1
theorem region_late {E:Env} (hE:E.Ok) {w0:Base} {F0:Nat → Prop} {n:Nat} (hx:Ctx E w0 F0) {ops:Array Oper} (hdst:dstOk n ops = true) {m:Nat} {J S:List Nat} (hok:OkLate E.M ops.toList m J)
  {st0:St} {l:List Eff} (hll:l.length = m) (hml:l.length ≤ ops.size) (hstep:∀ i o e,ops.toList[i]? = some o → l[i]? = some e → StepOf E ops (effs st0 (l.take i)) o e) (hlog:LogOk st0 l)
  {Q:Exit → Act → World → Prop} {K:St → Prop} (hQ:∀ st a w,K st → Fits w0 F0 n st a w → Q .normal a w) (hlate:LateC E S ops (effs st0 l) J) (hX:XRS E S (ops.toList.drop m) (effs st0 l) K) :
  ∀ (fuel:Nat) (listed:Array Bool) (σ:List Nat) (a:Act) (w:World),listed.size = ops.size → (∀ i,i < ops.size → (listed.getD i false = true ↔ i ∈ σ)) → σ.Nodup → (∀ i ∈ σ,i < l.length) →
   ops.size ≤ fuel + σ.length → Closed ops.toList (fun i=>listed.getD i false = true) → Fits w0 F0 n (effs st0 (pick l σ)) a w → wpAny E.P .any ops Q fuel listed a w:=by
 have hgood:GoodMasks ops.toList (masks ops.toList):=masksGo_good ops.toList _ [] (by simp) fun i S _ _ j hj=>by simp at hj
 have hdstof:∀ (j:Nat) (e:Eff),l[j]? = some e → ∃ o:Oper,ops.toList[j]? = some o ∧ e.1 = o.dst:=by
  intro j e hj
  have hjl:=(List.getElem?_eq_some_iff.1 hj).1
  have hjo:j < ops.toList.length:=by simp; omega
  exact ⟨_,List.getElem?_eq_getElem hjo,(hstep j _ e (List.getElem?_eq_getElem hjo) hj).dst⟩
 have behind:∀ (fuel:Nat) (listed:Array Bool) (σ:List Nat) (a:Act) (w:World),listed.size = ops.size → (∀ i,i < ops.size → (listed.getD i false = true ↔ i ∈ σ)) → σ.Nodup → (∀ i ∈ σ,i < l.length) →
   ops.size ≤ fuel + σ.length → Closed ops.toList (fun i=>listed.getD i false = true) → Fits w0 F0 n (effs st0 (pick l σ)) a w → (∀ i,i < m → i ∉ J → i ∈ σ) → wpAny E.P .any ops Q fuel listed a w:=by
  intro fuel listed σ a w hsz hl hσ hσl hf hcl h hq
  refine late_phase hE hx hdst hok (by omega) hQ fuel listed σ m _ _ a w hsz hl hσ (fun i hi=>by have:=hσl i hi; omega) hf hcl (Nat.le_refl _) (by omega) (fun i h1 h2=>?_) hq h (rel_start hok hll hstep hml hlog hσ hσl hq) hlate hX
  exact ⟨fun hm=>by have:=hσl i hm; omega,fun hm=>by omega⟩
 intro fuel
 induction fuel with
 | zero =>
  intro listed σ a w hsz hl hσ hσl hf hcl h
  have hlen:=len_below hσ hσl
  exact behind 0 listed σ a w hsz hl hσ hσl hf hcl h fun i hi _=>all_below hσ hσl (by omega) i (by omega)
 | succ fuel ih =>
  intro listed σ a w hsz hl hσ hσl hf hcl h
  by_cases hq:∀ i,i < m → i ∉ J → i ∈ σ
  ·exact behind (fuel + 1) listed σ a w hsz hl hσ hσl hf hcl h hq
  have hex:∃ i,i < m ∧ i ∉ J ∧ i ∉ σ:=Classical.byContradiction fun hno=>hq fun i h1 h2=>Classical.byContradiction fun h3=>hno ⟨i,h1,h2,h3⟩
  obtain ⟨i1,hi1,hi1J,hi1σ⟩:=hex
  refine ⟨fun hr=>?_,fun i hi=>?_⟩
  ·exfalso
   have hall:∀ i,i < ops.size → listed.getD i false = true:=by
    intro i
    induction i using Nat.strongRecOn with
    | _ i ihi =>
     intro hi
     cases hq:listed.getD i false with
     | true=>rfl
     | false =>
      exfalso
      have ho:ops[i]? = some ops[i]:=Array.getElem?_eq_getElem hi
      have:i ∈ Region.ready .any ops listed:=by
       refine mem_ready.2 ⟨by rw [getD_bool (by omega)]; exact hq,ops[i],ho,fun e he hb=>?_⟩
       have:=hok.edge i ops[i] (by rw [Array.getElem?_toList]; exact ho) e (by simpa using he) hb
       exact ihi e.on this (by omega)
      rw [hr] at this; simp at this
   exact hi1σ ((hl i1 (by omega)).1 (hall i1 (by omega)))
  ·obtain ⟨h1,o,ho,hpre⟩:=mem_ready.1 hi
   have hil:=(Array.getElem?_eq_some_iff.1 ho).1
   have hoL:ops.toList[i]? = some o:=by simpa using ho
   rw [getD_bool (by omega)] at h1
   have hiσ:i ∉ σ:=fun hm=>by rw [(hl i hil).2 hm] at h1; simp at h1
   have hS:Closed ops.toList (fun j=>listed.getD j false = true ∨ j = i):=by
    intro j o' ho' hj e he hb
    rcases hj with hj | rfl
    ·exact .inl (hcl j o' ho' hj e he hb)
    ·rw [hoL] at ho'
     obtain rfl:=Option.some.inj ho'
     exact .inl (hpre e (by simpa using he) hb)
   have hbefore:∀ j,j ≠ i → ((masks ops.toList).getD i 0).testBit j = true → listed.getD j false = true:=by
    intro j hj hb
    rcases hgood i _ hS (.inr rfl) j hb with h2 | h2
    ·exact h2
    ·exact absurd h2 hj
   have him:i < l.length:=by
    rcases Nat.lt_or_ge i l.length with him | him
    ·exact him
    ·exfalso
     rcases (hok.rest i o hoL (by omega)).2.2 i1 (by omega) with hb | ⟨-,hb⟩
     ·exact hi1σ ((hl i1 (by omega)).1 (hbefore i1 (by omega) hb))
     ·exact hi1J hb
   have he:l[i]? = some l[i]:=List.getElem?_eq_getElem him
   generalize l[i] = e at he
   obtain ⟨hsd,hsf,hhow⟩:=hstep i o e hoL he
   obtain ⟨F,ρ,hfit⟩:=h
   have htake:l.take i = pick l (List.range i):=(pick_range l i (by omega)).symm
   have hnames:∀ t ∈ opTmps o ++ gdTmps ops.toList o,∀ v,look (effs st0 (l.take i)).T t = some v → look (effs st0 (pick l σ)).T t = some v:=by
    intro t ht v hv
    rw [htake] at hv
    refine pick_T hlog hv fun j e' hj hjt=>?_
    obtain ⟨o',ho',hd'⟩:=hdstof j e' hj
    have hjl:=(List.getElem?_eq_some_iff.1 hj).1
    obtain ⟨hji,hbit⟩:=hok.names i o hoL t ht j o' ho' (by rw [← hd']; exact hjt)
    exact ⟨List.mem_range.2 hji,(hl j (by omega)).1 (hbefore j (by omega) hbit)⟩
   have hpre':Pre E F ρ (effs st0 (l.take i)).T (effs st0 (l.take i)).H o a w:=by
    have hp0:=hfit.pre hx o
    refine ⟨hp0.glob,hp0.lt,fun t v ht hv=>?_,fun id ob L hob hL=>?_⟩
    ·refine hfit.tmps t v (hnames t ?_ v hv)
     exact List.mem_append.2 (.inl (List.mem_filterMap.2 ⟨.tmp t,by simpa using ht,rfl⟩))
    ·obtain ⟨ob',hob'⟩:=Option.isSome_iff_exists.1 (hfit.dom id L hL)
     have hsame:ob' = ob:=by
      rw [htake] at hob
      have c1:=(pick_H hlog List.nodup_range).1 hob
      have c2:=(pick_H hlog hσ).1 hob'
      rcases c1 with c1 | ⟨j,hj,e1,h3,h4⟩ <;> rcases c2 with c2 | ⟨j',hj',e2,h5,h6⟩
      ·rw [c1] at c2; exact (Option.some.inj c2).symm
      ·have:=(hlog.new h5 (by rw [h6]; rfl:(look e2.2.2 id).isSome = true)).1; rw [c1] at this; simp at this
      ·have:=(hlog.new h3 (by rw [h4]; rfl:(look e1.2.2 id).isSome = true)).1; rw [c2] at this; simp at this
      ·have:=(hlog.new h3 (by rw [h4]; rfl:(look e1.2.2 id).isSome = true)).2 j' e2 h5 (by rw [h6]; rfl)
       subst this
       rw [h3] at h5
       obtain rfl:=Option.some.inj h5
       rw [h4] at h6; exact (Option.some.inj h6).symm
     subst hsame
     exact (hfit.heap.obj id ob' L hob' hL).1
   have hguard:∀ g,guardA ops (effs st0 (l.take i)).T o = some g → Region.wanted o (yielded ops a.tmps) = g:=by
    intro g hg
    refine guard_run (F:=F) (ρ:=ρ) (w:=w) hg fun j want d v hgd hd hv=>?_
    obtain ⟨o',ho',hd'⟩:=Option.bind_eq_some_iff.1 hd
    refine ⟨by rw [hfit.size]; exact dstOk_spec hdst (by simpa using Array.mem_of_getElem? ho') hd',hfit.tmps d v (hnames d ?_ v hv)⟩
    refine List.mem_append.2 (.inr ?_)
    unfold gdTmps
    rw [hgd]
    simp only
    have:ops.toList[j]? = some o':=by simpa using ho'
    rw [this]
    simp [hd']
   have hnext:∀ cv w' F' ρ',Post F ρ w e.2.1 e.2.2 F' ρ' w' cv → wpAny E.P .any ops Q fuel (listed.setIfInBounds i true) (a.put o.dst cv) w':=by
    intro cv w' F' ρ' hpost
    have hfit':=hfit.post (dst:=o.dst) hpost (fun id hid=>?_) (fun d hd=>dstOk_spec hdst (List.mem_of_getElem? hoL) hd)
    ·refine ih (listed.setIfInBounds i true) (σ ++ [i]) _ _ (by simp [hsz]) (fun j hj=>?_) ?_ (fun j hj=>?_) (by simp; omega) ?_ ⟨F',ρ', ?_⟩
     ·by_cases hij:i = j
      ·subst hij; simp [hsz,hil]
      ·rw [getD_set_ne false hij,hl j hj]
       rw [List.mem_append]
       exact ⟨fun h=>.inl h,fun h=>h.elim id fun h=>absurd (List.mem_singleton.1 h).symm hij⟩
     ·rw [List.nodup_append]
      exact ⟨hσ,by simp,fun x hx y hy=>by simp at hy; subst hy; intro hxy; subst hxy; exact hiσ hx⟩
     ·rcases List.mem_append.1 hj with hj | hj
      ·exact hσl j hj
      ·simp at hj; subst hj; exact him
     ·intro j o' ho' hj e' he' hb
      have:=hS j o' ho' (by
       by_cases hij:i = j
       ·exact .inr hij.symm
       ·rw [getD_set_ne false hij] at hj; exact .inl hj) e' he' hb
      rcases this with h2 | h2
      ·exact getD_set_true h2
      ·rw [h2]; simp [hsz,hil]
     ·have:pick l (σ ++ [i]) = pick l σ ++ [e]:=by simp [pick,he]
      rw [this,effs_append]
      show Fit w0 F0 n ((effs st0 (pick l σ)).eff e.1 e.2.1 e.2.2) _ _ _ _
      rw [hsd]; exact hfit'
    ·refine ⟨?_,(freshB_spec hsf id hid).2⟩
     cases hq:look (effs st0 (pick l σ)).H id with
     | none=>rfl
     | some ob =>
      exfalso
      obtain ⟨n1,n2⟩:=hlog.new he hid
      rcases (pick_H hlog hσ).1 hq with c | ⟨j,hj,e',h3,h4⟩
      ·rw [n1] at c; simp at c
      ·have:=n2 j e' h3 (by rw [h4]; rfl)
       subst this; exact hiσ hj
   unfold wpOp
   rw [ho]
   simp only
   rcases hhow with ⟨hg,hv,hfr⟩ | ⟨hg,hq⟩
   ·rw [if_neg (by rw [hguard false hg]; simp)]
    refine hnext undef w F ρ ?_
    rw [hv,hfr]
    exact ⟨Below.refl _ _,fun _ h=>h,fun _ h=>.inl h,hfit.lt,.tup [] #[] rfl (fun j x v h=>by simp at h),fun _ _=>rfl,fun _ _ _ h=>by simp [look] at h,fun _ _ h=>by simp [look] at h,fun _ _ _ _ _ _ h=>by simp [look] at h⟩
   ·rw [if_pos (hguard true hg)]
    exact .inl (hq.1 F ρ a w hpre' _ _ hnext)
end Go.Vai
