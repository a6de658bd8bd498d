/- Texts of this claim: Zv12. -/
import Derived.Test.YtiipeibaiphmpaaGreatDoorTv11c
set_option linter.unusedVariables false
set_option linter.unusedSimpArgs false
namespace Go.Vai
def guardA (ops:Array Oper) (T:List (Nat × AV)) (o:Oper):Option Bool :=
 match o.guard with
 | none=>some true
 | some (j,want)=>match (ops[j]?).bind (·.dst) with
  | some d=>match look T d with
   | some (.i (.bool b))=>some (b == want)
   | some (.tup _)=>some false
   | _=>none
  | none=>none
def freshB (H:List (Nat × Obj)) (frs:List (Nat × Obj)):Bool:=frs.all fun p=>(look H p.1).isNone && decide (p.1 < 700000)
theorem freshB_spec {H frs:List (Nat × Obj)} (h:freshB H frs = true) (o:Nat) (ho:(look frs o).isSome = true):look H o = none ∧ o < 700000:=by
 induction frs with
 | nil=>simp [look] at ho
 | cons p frs ih =>
  obtain ⟨i,x⟩:=p
  simp only [freshB,List.all_cons,Bool.and_eq_true] at h
  rw [look_cons] at ho
  split at ho
  ·rename_i hi; subst hi; exact ⟨by simpa using h.1.1,by simpa using h.1.2⟩
  ·exact ih h.2 ho
def keepB (N:List FuncId):Op → Bool
 | .call { callee:=.value (.func f),.. }=>N.contains f
 | _=>false
def quietX (E:Env) (st:St) (o:Oper) (K:AV → List (Nat × Obj) → Prop):Prop :=
 match calleeA E st.T o.op with
 | some (g,vs)=>∃ ys rs d,imm2 (keepB E.N o.op) st.H vs = some ys ∧ o.dst = some d ∧ PC E g ys rs ∧ ((vs.all noOwn = true) ∨ ∀ r ∈ rs,flatR r) ∧ freshB st.H (resA d rs).2 = true ∧ K (resA d rs).1 (resA d rs).2
 | none=>match qpure E st.T st.H o.op with
  | some v=>K v []
  | none=>match o.dst with
   | some d=>match qfresh E st.T d o.op with
    | some (v,ob)=>freshB st.H [(d,ob)] = true ∧ K v [(d,ob)]
    | none=>match cellA E st.T o.op with
     | some v=>K v []
     | none=>False
   | none=>False
def isApp:Op → Option (TypeId × Operand × Operand)
 | .call { callee:=.builtin .append,args:=xs,argTypes:=ts }=>match ts.toList,xs.toList with
  | [t,t'],[s,x]=>if t = t' then some (t,s,x) else none
  | _,_=>none
 | _=>none
def isStore:Op → Option (TypeId × Operand × Operand)
 | .store t x y=>some (t,x,y)
 | _=>none
def isCallM (M:List FuncId):Op → Bool
 | .call { callee:=.value (.func f),.. }=>M.contains f
 | .call { callee:=.builtin .clear,.. }=>true
 | _=>false
def isMut (M:List FuncId) (o:Op):Bool:=(isApp o).isSome || (isStore o).isSome || isCallM M o
def mutX (E:Env) (st:St) (o:Oper) (K:St → Prop):Prop :=
 match calleeA E st.T o.op with
 | some (g,vs)=>∃ args outs rs d part,PM E g args outs rs part ∧ fitM st.H (without (idsM (midM 0 vs args)) st.H) vs args ∧ nodupB (idsM (midM 0 vs args)) = true ∧ fullM (maO 0 args outs) (midM 0 vs args) = true ∧
   (noOwnM vs args = true ∨ (∀ r ∈ rs,flatR r) ∧ ∀ ob ∈ outs,flatO ob) ∧ freshB st.H (resA d rs).2 = true ∧ K ⟨putT o.dst (valP part (midM 0 vs args) (resA d rs).1) st.T,(resA d rs).2 ++ putL (maO 0 args outs) (midM 0 vs args) st.H⟩
 | none=>match isClr o.op with
  | some (t,x)=>match o.dst,evA E st.T x with
   | none,some va=>match clearA E st t va with
    | some st'=>K st'
    | none=>False
   | _,_=>False
  | none=>False
def opX (E:Env) (st:St) (o:Oper) (K:St → Prop):Prop :=
 match isStore o.op with
 | some (t,x,y)=>match o.dst,evA E st.T x,evA E st.T y with
  | none,some va,some vv=>match storeA E st t va vv with
   | some st'=>K st'
   | none=>False
  | _,_,_=>False
 | none=>match isApp o.op with
  | some (t,s,x)=>match o.dst,evA E st.T s,evA E st.T x with
   | some d,some vs,some vx=>match appendA E st d t vs vx with
    | some (r,st')=>K ⟨(d,r) :: st'.T,st'.H⟩
    | none=>False
   | _,_,_=>False
  | none=>match isCallM E.M o.op with
   | true=>mutX E st o K
   | false=>quietX E st o fun v frs=>K (st.eff o.dst v frs)
def XR (E:Env) (ops:Array Oper):List Oper → St → (St → Prop) → Prop
 | [],st,K=>K st
 | o :: os,st,K=>match guardA ops st.T o with
  | none=>False
  | some g=>(g = true → opX E st o fun st'=>XR E ops os st' K) ∧ (g = false → XR E ops os (st.eff o.dst (.tup []) []) K)
def lateOp:Op → Bool
 | .move _ | .extract _ _ | .pick _ _ _ | .unOp _ _ _ | .convert _ _ _=>true
 | .binOp op _ _ _ _=>match op with
  | .eql | .neq=>false
  | _=>true
 | _=>false
def lateMem:Op → Bool
 | .load _ _ | .indexAddr _ _ _ | .fieldAddr _ _ _ | .assign _ | .field _ _ _ | .slice _ _ _ _ _=>true
 | .call { callee:=.builtin .len,.. }=>true
 | o=>lateOp o
theorem lateOp_mem {o:Op} (h:lateOp o = true):lateMem o = true:=by
 cases o <;> simp [lateOp] at h <;> simp [lateMem,lateOp]
 exact h
theorem quietX_QOK {E:Env} (hE:E.Ok) {st:St} {o:Oper} {K:AV → List (Nat × Obj) → Prop} (h:quietX E st o K) :
  ∃ v frs,QOK E st.T st.H o v frs ∧ freshB st.H frs = true ∧ K v frs ∧ (lateMem o.op = true → qpure E st.T st.H o.op = some v ∧ frs = []):=by
 unfold quietX at h
 split at h
 ·rename_i g vs hc
  obtain ⟨ys,rs,d,h1,hd,h2,h3,h4,h5⟩:=h
  refine ⟨_,_,QOK.call hc h1 h2 h3,h4,h5,fun hl=>?_⟩
  exfalso
  cases ho:o.op <;> rw [ho] at hl hc <;> (try (simp [lateMem,lateOp,calleeA] at hl hc; done))
  rename_i c
  obtain ⟨callee,xs,ts⟩:=c
  cases callee <;> simp [lateMem,lateOp,calleeA] at hl hc
 ·split at h
  ·rename_i v hv
   exact ⟨v,[],QOK.pure hE hv,rfl,h,fun _=>⟨hv,rfl⟩⟩
  ·split at h
   ·rename_i d hd
    split at h
    ·rename_i v ob hv
     refine ⟨v,_,QOK.fresh hE hv,h.1,h.2,fun hl=>?_⟩
     exfalso
     cases ho:o.op <;> rw [ho] at hl hv <;> (try (simp [lateMem,lateOp,qfresh] at hl hv; done))
     rename_i c
     obtain ⟨callee,xs,ts⟩:=c
     cases callee <;> (try (simp [lateMem,lateOp,qfresh] at hl hv; done))
     rename_i b
     cases b <;> simp [lateMem,lateOp,qfresh] at hl hv
    ·split at h
     ·rename_i v hv
      refine ⟨v,[],QOK.cell hv,rfl,h,fun hl=>?_⟩
      exfalso
      cases ho:o.op <;> rw [ho] at hl hv <;> (try (simp [cellA] at hv; done))
      simp [lateMem,lateOp] at hl
     ·exact h.elim
   ·exact h.elim
def conc (w0:Base) (F0:Nat → Prop) (n:Nat) (Q:Exit → St → Prop):Exit → Act → World → Prop:=fun e a w=>∃ st,Q e st ∧ Fits w0 F0 n st a w
theorem tup_inv {F:Nat → Prop} {ρ:Locs} {w:World} {vs:List AV} {v:Value} (h:RepA F ρ w (.tup vs) v):∃ cs,v = .tuple cs:=by
 cases h with | tup vs cs hs hr=>exact ⟨cs,rfl⟩
theorem guard_run {ops:Array Oper} {T:List (Nat × AV)} {o:Oper} {a:Act} {g:Bool} {F:Nat → Prop} {ρ:Locs} {w:World} (hg:guardA ops T o = some g)
  (ht:∀ j want d v,o.guard = some (j,want) → (ops[j]?).bind (·.dst) = some d → look T d = some v → d < a.tmps.size ∧ RepA F ρ w v (a.tmps.getD d undef)) :
  Region.wanted o (yielded ops a.tmps) = g:=by
 unfold guardA at hg
 unfold Region.wanted
 cases hgd:o.guard with
 | none=>rw [hgd] at hg; exact Option.some.inj hg
 | some p =>
  obtain ⟨j,want⟩:=p
  rw [hgd] at hg
  simp only at hg ⊢
  split at hg <;> (try (simp at hg; done))
  rename_i d hd
  split at hg <;> (try (simp at hg; done))
  ·rename_i b hb
   obtain rfl:=Option.some.inj hg
   obtain ⟨h1,h2⟩:=ht j want d _ hgd hd hb
   have h3:=h2.bool_inv
   have h4:a.tmps[d]? = some (.bool b):=by
    rw [Array.getD_eq_getD_getElem?] at h3
    cases hq:a.tmps[d]? with
    | none=>exact absurd (Array.getElem?_eq_none_iff.1 hq) (Nat.not_le.2 h1)
    | some x=>rw [hq] at h3; simp at h3; rw [h3]
   unfold yielded
   rw [hd]
   simp only [Option.bind_some,h4]
   cases b <;> cases want <;> rfl
  ·rename_i vs hb
   obtain rfl:=Option.some.inj hg
   obtain ⟨h1,h2⟩:=ht j want d _ hgd hd hb
   obtain ⟨cs,h3⟩:=tup_inv h2
   have h4:a.tmps[d]? = some (.tuple cs):=by
    rw [Array.getD_eq_getD_getElem?] at h3
    cases hq:a.tmps[d]? with
    | none=>exact absurd (Array.getElem?_eq_none_iff.1 hq) (Nat.not_le.2 h1)
    | some x=>rw [hq] at h3; simp at h3; rw [h3]
   unfold yielded
   rw [hd]
   simp only [Option.bind_some,h4]
   cases want <;> rfl
def dstOk (n:Nat) (ops:Array Oper):Bool:=ops.toList.all fun o=>match o.dst with
 | some d=>decide (d < n)
 | none=>true
theorem dstOk_spec {n:Nat} {ops:Array Oper} (h:dstOk n ops = true) {o:Oper} (ho:o ∈ ops.toList) {d:Nat} (hd:o.dst = some d):d < n:=by
 have:=List.all_eq_true.1 h o ho
 rw [hd] at this
 simpa using this
theorem opX_wp {E:Env} (hE:E.Ok) {w0:Base} {F0:Nat → Prop} {n:Nat} {st:St} {a:Act} {w:World} (hx:Ctx E w0 F0) (h:Fits w0 F0 n st a w) {o:Oper} {K:St → Prop} (hd:∀ d,o.dst = some d → d < n)
  (hop:opX E st o K) (Q:Exit → Act → World → Prop):o.wp E.P a w (fun a' w'=>∃ st',K st' ∧ Fits w0 F0 n st' a' w') Q:=by
 obtain ⟨F,ρ,hf⟩:=h
 unfold opX at hop
 split at hop
 ·rename_i t x y hs
  split at hop <;> (try exact hop.elim)
  rename_i va vv hdst hva hvv
  split at hop <;> (try exact hop.elim)
  rename_i st' hst
  have ho:o.op = .store t x y:=by
   cases hq:o.op <;> rw [hq] at hs <;> simp [isStore] at hs
   obtain ⟨rfl,rfl,rfl⟩:=hs; rfl
  exact Oper.wp_mono (fun _ _ h=>⟨st',hop,h⟩) (storeA_wp hE hx hf ho hdst hva hvv hst Q)
 ·split at hop
  ·rename_i t s x hs
   split at hop <;> (try exact hop.elim)
   rename_i d vs vx hdst hvs hvx
   split at hop <;> (try exact hop.elim)
   rename_i r st' hst
   have ho:o.op = .call { callee:=.builtin .append,args:=#[s,x],argTypes:=#[t,t] }:=by
    cases hq:o.op <;> rw [hq] at hs <;> simp only [isApp] at hs <;> (try (simp at hs; done))
    rename_i c
    obtain ⟨callee,xs,ts⟩:=c
    cases callee <;> (try simp only [isApp] at hs) <;> (try (simp at hs; done))
    rename_i b
    cases b <;> (try simp only [isApp] at hs) <;> (try (simp at hs; done))
    split at hs <;> (try (simp at hs; done))
    rename_i t1 t2 s1 x1 e1 e2
    split at hs <;> (try (simp at hs; done))
    rename_i hts
    subst hts
    simp only [Option.some.injEq,Prod.mk.injEq] at hs
    obtain ⟨rfl,rfl,rfl⟩:=hs
    rw [arr2 e1,arr2 e2]
   exact Oper.wp_mono (fun _ _ h=>⟨_,hop,h⟩) (appendA_wp hE hx hf ho hdst (hd d hdst) hvs hvx hst Q)
  ·split at hop
   ·unfold mutX at hop
    split at hop
    ·rename_i g vs hc
     obtain ⟨args,outs,rs,d,part,h1,h2,h3,h4,h5,h6,h7⟩:=hop
     exact Oper.wp_mono (fun _ _ h=>⟨_,h7,h⟩) (mutCall_wp hx hf hd hc h1 h2 (nodupB_spec h3) h4 h5 (freshB_spec h6) Q)
    ·split at hop <;> (try exact hop.elim)
     rename_i t x hs
     split at hop <;> (try exact hop.elim)
     rename_i va hdst hva
     split at hop <;> (try exact hop.elim)
     rename_i st' hst
     exact Oper.wp_mono (fun _ _ h=>⟨_,hop,h⟩) (clearA_wp hE hx hf (isClr_spec hs) hdst hva hst Q)
   ·obtain ⟨v,frs,h1,h2,h3,-⟩:=quietX_QOK hE hop
    exact h1 F ρ a w (hf.pre hx o) _ _ fun cv w' F' ρ' hp=>⟨_,h3,F',ρ',hf.post hp (freshB_spec h2) hd⟩
theorem XR_seq {E:Env} (hE:E.Ok) {w0:Base} {F0:Nat → Prop} {n:Nat} (hx:Ctx E w0 F0) {ops:Array Oper} (hdst:dstOk n ops = true) {K:St → Prop} {Q:Exit → Act → World → Prop}
  (hQ:∀ st a w,K st → Fits w0 F0 n st a w → Q .normal a w):∀ (os:List Oper) (k:Nat) (st:St) (a:Act) (w:World),ops.toList.drop k = os → XR E ops os st K → Fits w0 F0 n st a w → wpOps E.P ops Q (List.range' k os.length) a w
 | [],k,st,a,w,_,hX,h=>hQ st a w hX h
 | o :: os,k,st,a,w,hk,hX,h=>by
  have ho:ops[k]? = some o:=by
   have:=congrArg (fun l=>l[0]?) hk
   simpa using this
  have hk':ops.toList.drop (k + 1) = os:=by
   have:=congrArg List.tail hk
   simpa [List.tail_drop] using this
  have hmem:o ∈ ops.toList:=List.mem_of_mem_drop (hk ▸ List.mem_cons_self)
  rw [List.length_cons,List.range'_succ,wpOps_cons]
  simp only [XR] at hX
  split at hX
  ·exact hX.elim
  ·rename_i g hg
   obtain ⟨F,ρ,hf⟩:=h
   have hw:=guard_run (a:=a) (F:=F) (ρ:=ρ) (w:=w) hg fun j want d v _ hd hv=>by
    obtain ⟨o',ho',hd'⟩:=Option.bind_eq_some_iff.1 hd
    exact ⟨by rw [hf.size]; exact dstOk_spec hdst (by simpa using Array.mem_of_getElem? ho') hd',hf.tmps d v hv⟩
   unfold wpOp
   rw [ho]
   simp only
   cases g with
   | true =>
    rw [if_pos hw]
    exact .inl (Oper.wp_mono (fun a' w' ⟨st',h1,h2⟩=>XR_seq hE hx hdst hQ os (k + 1) st' a' w' hk' h1 h2) (opX_wp hE hx ⟨F,ρ,hf⟩ (fun d hd=>dstOk_spec hdst hmem hd) (hX.1 rfl) Q))
   | false =>
    rw [if_neg (by rw [hw]; simp)]
    refine XR_seq hE hx hdst hQ os (k + 1) _ _ w hk' (hX.2 rfl) ⟨F,ρ,hf.post (v:=.tup []) (frs:=[]) ?_ (fun _ h=>by simp [look] at h) fun d hd=>dstOk_spec hdst hmem hd⟩
    exact ⟨Below.refl _ _,fun _ h=>h,fun _ h=>.inl h,hf.lt,.tup [] #[] rfl (fun j x v h=>by simp at h),fun _ _=>rfl,fun _ _ _ h=>by simp [look] at h,fun _ _ h=>by simp [look] at h,fun _ _ _ _ _ _ h=>by simp [look] at h⟩
end Go.Vai
