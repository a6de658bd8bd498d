/- Texts of this claim: Zv11b. -/
import Derived.Test.YtiipeibaiphmpaaGreatDoorTv11
set_option linter.unusedVariables false
set_option linter.unusedSimpArgs false
namespace Go.Vai
inductive MA where
 | i (x:AV)
 | sl (ob:Obj)
 | pt (ob:Obj)
 | so (ob:Obj) (off:Nat)
def ma1 (k:Nat):MA → AV
 | .i x=>x
 | .sl ob=>.own (700000 + k) 0 ob.els.length
 | .pt _=>.ptr (700000 + k) 0 0
 | .so ob off=>.own (700000 + k) off (ob.els.length - off)
def ma2 (k:Nat):MA → List (Nat × Obj)
 | .i _=>[]
 | .sl ob=>[(700000 + k,ob)]
 | .pt ob=>[(700000 + k,ob)]
 | .so ob _=>[(700000 + k,ob)]
def maA:Nat → List MA → List AV
 | _,[]=>[]
 | k,a :: l=>ma1 k a :: maA (k + 1) l
def maH:Nat → List MA → List (Nat × Obj)
 | _,[]=>[]
 | k,a :: l=>ma2 k a ++ maH (k + 1) l
def maO:Nat → List MA → List Obj → List (Nat × Obj)
 | _,[],_=>[]
 | k,.i _ :: l,os=>maO (k + 1) l os
 | k,.sl _ :: l,ob :: os=>(700000 + k,ob) :: maO (k + 1) l os
 | k,.pt _ :: l,ob :: os=>(700000 + k,ob) :: maO (k + 1) l os
 | k,.so _ _ :: l,ob :: os=>(700000 + k,ob) :: maO (k + 1) l os
 | _,.sl _ :: _,[]=>[]
 | _,.pt _ :: _,[]=>[]
 | _,.so _ _ :: _,[]=>[]
def without (us:List Nat) (H:List (Nat × Obj)):List (Nat × Obj):=H.filter fun p=>!us.contains p.1
theorem look_without {us:List Nat} {H:List (Nat × Obj)} {o:Nat} {ob:Obj} (h:look (without us H) o = some ob):look H o = some ob ∧ o ∉ us:=by
 induction H with
 | nil=>simp [without,look] at h
 | cons p H ih =>
  obtain ⟨i,x⟩:=p
  simp only [without,List.filter_cons] at h
  by_cases hp:(!us.contains i) = true
  ·rw [if_pos hp,look_cons] at h
   rw [look_cons]
   split at h
   ·rename_i hi; subst hi; rw [if_pos rfl]; exact ⟨h,by simpa using hp⟩
   ·rename_i hi; rw [if_neg hi]; exact ih h
  ·rw [if_neg hp] at h
   obtain ⟨h1,h2⟩:=ih h
   rw [look_cons,if_neg]
   ·exact ⟨h1,h2⟩
   ·intro hi; subst hi; simp at hp; exact h2 hp
def nodupB:List Nat → Bool
 | []=>true
 | x :: l=>!l.contains x && nodupB l
theorem nodupB_spec:∀ {l:List Nat},nodupB l = true → l.Nodup
 | [],_=>List.nodup_nil
 | x :: l,h=>by
  simp only [nodupB,Bool.and_eq_true,Bool.not_eq_true'] at h
  exact List.nodup_cons.2 ⟨by simpa using h.1,nodupB_spec h.2⟩
def Dm (ρ:Locs) (H:List (Nat × Obj)) (b:Nat):Prop:=∃ o ob L,look H o = some ob ∧ ρ o = some L ∧ L.b = b
def retP (part:Option (Nat × Nat × Nat)) (F:Nat → Prop) (ρ:Locs) (w:World) (vs:List Value) (u:Value):Prop:=match part with
 | none=>u = packV vs
 | some (j,off,len)=>RepA F ρ w (.own (700000 + j) off len) u
structure PM (E:Env) (f:FuncId) (args:List MA) (outs:List Obj) (rs:List RV) (part:Option (Nat × Nat × Nat):=none):Prop where
 goes:goesB E.P f = true
 lens:∀ i ob ob',look (maH 0 args) i = some ob → look (maO 0 args outs) i = some ob' → ob'.els.length = ob.els.length
 run:∀ (F:Nat → Prop) (ρ:Locs) (w:World) (cargs:Array Value),GRep E F w → (∀ b,F b → b < w.heap.size) → cargs.size = args.length →
  (∀ (j:Nat) (x:AV) (v:Value),(maA 0 args)[j]? = some x → cargs[j]? = some v → RepA F ρ w x v) → HRep F ρ (fun _=>True) (maH 0 args) w → (∀ o L,ρ o = some L → (look (maH 0 args) o).isSome = true) →
  Calls E.P f cargs w fun e w'=>∃ vs F' ls u,e = .returned u ∧ retP part F' ρ w' vs u ∧ Base.Kept ⟨w,Dm ρ (maH 0 args),ρ⟩ w' ∧ (∀ b,F b → F' b) ∧ (∀ b,F' b → F b ∨ w.heap.size ≤ b) ∧
   (∀ b,F' b → b < w'.heap.size) ∧ RepRs F' w.heap.size w' rs vs ls ∧ ∀ o ob L,look (maO 0 args outs) o = some ob → ρ o = some L → ObjRep F' w' ob L ∧ ¬ F' L.b
def midOf:AV → MA → Option Nat
 | .own o _ _,.sl _=>some o
 | .ptr o _ _,.pt _=>some o
 | .own o _ _,.so _ _=>some o
 | _,_=>none
def midM:Nat → List AV → List MA → List (Nat × Nat)
 | k,v :: vs,a :: as=>(match midOf v a with
  | some o=>[(700000 + k,o)]
  | none=>[]) ++ midM (k + 1) vs as
 | _,_,_=>[]
def idsM (m:List (Nat × Nat)):List Nat:=m.map (·.2)
def fit1 (H Hi:List (Nat × Obj)) (v:AV):MA → Prop
 | .i y=>immA Hi v = some y
 | .sl ob=>match v with
  | .own o off len=>off = 0 ∧ len = ob.els.length ∧ look H o = some ob
  | _=>False
 | .pt ob=>match v with
  | .ptr o e j=>e = 0 ∧ j = 0 ∧ look H o = some ob
  | _=>False
 | .so ob f=>match v with
  | .own o off len=>off = f ∧ len = ob.els.length - f ∧ look H o = some ob
  | _=>False
def fitM (H Hi:List (Nat × Obj)):List AV → List MA → Prop
 | [],[]=>True
 | v :: vs,a :: as=>fit1 H Hi v a ∧ fitM H Hi vs as
 | _,_=>False
def noOwnM:List AV → List MA → Bool
 | v :: vs,.i _ :: as=>noOwn v && noOwnM vs as
 | _ :: vs,.sl _ :: as=>noOwnM vs as
 | _ :: vs,.pt _ :: as=>noOwnM vs as
 | _ :: vs,.so _ _ :: as=>noOwnM vs as
 | _,_=>true
def putL (O:List (Nat × Obj)):List (Nat × Nat) → List (Nat × Obj) → List (Nat × Obj)
 | [],H=>H
 | (i,o) :: m,H=>match look O i with
  | some ob=>setH o ob (putL O m H)
  | none=>putL O m H
def fullM (O:List (Nat × Obj)) (m:List (Nat × Nat)):Bool:=m.all fun p=>(look O p.1).isSome
def valP (part:Option (Nat × Nat × Nat)) (m:List (Nat × Nat)) (v:AV):AV:=match part with
 | none=>v
 | some (j,off,len)=>match look m (700000 + j) with
  | some o=>.own o off len
  | none=>.dead
def flatO (ob:Obj):Prop:=∀ el ∈ ob.els,flatC el
theorem fitM_spec {H Hi:List (Nat × Obj)}:∀ {vs:List AV} {as:List MA},fitM H Hi vs as → vs.length = as.length ∧ ∀ (j:Nat) (v:AV) (a:MA),vs[j]? = some v → as[j]? = some a → fit1 H Hi v a
 | [],[],_=>by simp
 | [],_ :: _,h=>h.elim
 | _ :: _,[],h=>h.elim
 | v :: vs,a :: as,h=>by
  obtain ⟨h1,h2⟩:=fitM_spec h.2
  refine ⟨by simp [h1],fun j=>?_⟩
  cases j with
  | zero=>simp only [List.getElem?_cons_zero,Option.some.injEq]; rintro _ _ rfl rfl; exact h.1
  | succ j=>simpa using h2 j
theorem maA_get:∀ {as:List MA} {k j:Nat} {x:AV},(maA k as)[j]? = some x → ∃ a,as[j]? = some a ∧ x = ma1 (k + j) a
 | [],k,j,x,h=>by simp [maA] at h
 | a :: as,k,0,x,h=>by simp [maA] at h; exact ⟨a,rfl,h.symm⟩
 | a :: as,k,j + 1,x,h=>by
  obtain ⟨b,h1,h2⟩:=maA_get (k:=k + 1) (j:=j) (x:=x) (by simpa [maA] using h)
  exact ⟨b,by simpa using h1,by rw [h2,show k + 1 + j = k + (j + 1) by omega]⟩
theorem maA_len:∀ (as:List MA) (k:Nat),(maA k as).length = as.length
 | [],_=>rfl
 | a :: as,k=>by simp [maA,maA_len as]
theorem maH_get:∀ {as:List MA} {k i:Nat} {ob:Obj},look (maH k as) i = some ob → ∃ j a,as[j]? = some a ∧ i = 700000 + k + j ∧ (a = .sl ob ∨ a = .pt ob ∨ ∃ f,a = .so ob f)
 | [],k,i,ob,h=>by simp [maH,look] at h
 | a :: as,k,i,ob,h=>by
  simp only [maH,look_append] at h
  split at h
  ·rename_i v hv
   obtain rfl:=Option.some.inj h
   cases a with
   | i x=>simp [ma2,look] at hv
   | sl o =>
    simp only [ma2,look_cons,look_nil] at hv
    split at hv
    ·obtain rfl:=Option.some.inj hv; exact ⟨0,_,rfl,by omega,.inl rfl⟩
    ·simp at hv
   | pt o =>
    simp only [ma2,look_cons,look_nil] at hv
    split at hv
    ·obtain rfl:=Option.some.inj hv; exact ⟨0,_,rfl,by omega,.inr (.inl rfl)⟩
    ·simp at hv
   | so o f =>
    simp only [ma2,look_cons,look_nil] at hv
    split at hv
    ·obtain rfl:=Option.some.inj hv; exact ⟨0,_,rfl,by omega,.inr (.inr ⟨f,rfl⟩)⟩
    ·simp at hv
  ·obtain ⟨j,b,h1,h2,h3⟩:=maH_get h
   exact ⟨j + 1,b,by simpa using h1,by omega,h3⟩
theorem midM_get:∀ {vs:List AV} {as:List MA} {k i o:Nat},look (midM k vs as) i = some o → ∃ j v a,vs[j]? = some v ∧ as[j]? = some a ∧ i = 700000 + k + j ∧ midOf v a = some o
 | [],_,k,i,o,h=>by simp [midM,look] at h
 | _ :: _,[],k,i,o,h=>by simp [midM,look] at h
 | v :: vs,a :: as,k,i,o,h=>by
  simp only [midM,look_append] at h
  split at h
  ·rename_i x hx
   obtain rfl:=Option.some.inj h
   split at hx
   ·rename_i o' ho'
    simp only [look_cons,look_nil] at hx
    split at hx
    ·obtain rfl:=Option.some.inj hx; exact ⟨0,v,a,rfl,rfl,by omega,ho'⟩
    ·simp at hx
   ·simp [look] at hx
  ·obtain ⟨j,v',a',h1,h2,h3,h4⟩:=midM_get h
   exact ⟨j + 1,v',a',by simpa using h1,by simpa using h2,by omega,h4⟩
theorem midM_at:∀ {vs:List AV} {as:List MA} {k j o:Nat} {v:AV} {a:MA},vs[j]? = some v → as[j]? = some a → midOf v a = some o → look (midM k vs as) (700000 + k + j) = some o
 | [],_,k,j,o,v,a,h,_,_=>by simp at h
 | _ :: _,[],k,j,o,v,a,_,h,_=>by simp at h
 | v :: vs,a :: as,k,0,o,v',a',h1,h2,h3=>by
  obtain rfl:=Option.some.inj h1; obtain rfl:=Option.some.inj h2
  simp [midM,h3,look_append,look_cons]
 | v :: vs,a :: as,k,j + 1,o,v',a',h1,h2,h3=>by
  have:=midM_at (k:=k + 1) (by simpa using h1) (by simpa using h2) h3
  rw [show 700000 + k + (j + 1) = 700000 + (k + 1) + j by omega]
  simp only [midM,look_append,this]
  split
  ·rename_i x hx
   split at hx
   ·simp only [look_cons,look_nil] at hx
    split at hx
    ·omega
    ·simp at hx
   ·simp [look] at hx
  ·rfl
theorem midM_mem:∀ {vs:List AV} {as:List MA} {k i o:Nat},(i,o) ∈ midM k vs as → ∃ j v a,vs[j]? = some v ∧ as[j]? = some a ∧ i = 700000 + k + j ∧ midOf v a = some o
 | [],_,k,i,o,h=>by simp [midM] at h
 | _ :: _,[],k,i,o,h=>by simp [midM] at h
 | v :: vs,a :: as,k,i,o,h=>by
  simp only [midM,List.mem_append] at h
  rcases h with h | h
  ·split at h
   ·rename_i o' ho'
    simp only [List.mem_singleton,Prod.mk.injEq] at h
    obtain ⟨rfl,rfl⟩:=h
    exact ⟨0,v,a,rfl,rfl,by omega,ho'⟩
   ·simp at h
  ·obtain ⟨j,v',a',h1,h2,h3,h4⟩:=midM_mem h
   exact ⟨j + 1,v',a',by simpa using h1,by simpa using h2,by omega,h4⟩
theorem maH_at:∀ {as:List MA} {k j:Nat} {ob:Obj} {a:MA},as[j]? = some a → (a = .sl ob ∨ a = .pt ob ∨ ∃ f,a = .so ob f) → look (maH k as) (700000 + k + j) = some ob
 | [],k,j,ob,a,h,_=>by simp at h
 | b :: as,k,0,ob,a,h,h2=>by
  obtain rfl:=Option.some.inj h
  rcases h2 with rfl | rfl | ⟨f,rfl⟩ <;> simp [maH,ma2,look_append,look_cons]
 | b :: as,k,j + 1,ob,a,h,h2=>by
  have:=maH_at (k:=k + 1) (by simpa using h) h2
  rw [show 700000 + k + (j + 1) = 700000 + (k + 1) + j by omega]
  simp only [maH,look_append,this]
  cases b with
  | i x=>simp [ma2,look]
  | sl x=>simp only [ma2,look_cons,look_nil]; rw [if_neg (by omega)]
  | pt x=>simp only [ma2,look_cons,look_nil]; rw [if_neg (by omega)]
  | so x f=>simp only [ma2,look_cons,look_nil]; rw [if_neg (by omega)]
theorem look_memP {α:Type}:∀ {l:List (Nat × α)} {t:Nat} {v:α},look l t = some v → (t,v) ∈ l
 | [],t,v,h=>by simp [look] at h
 | (i,x) :: l,t,v,h=>by
  rw [look_cons] at h
  split at h
  ·rename_i hi; subst hi; obtain rfl:=Option.some.inj h; simp
  ·exact List.mem_cons_of_mem _ (look_memP h)
theorem inj_snd:∀ {m:List (Nat × Nat)},(idsM m).Nodup → ∀ {i i' o:Nat},(i,o) ∈ m → (i',o) ∈ m → i = i'
 | [],_,i,i',o,h,_=>by simp at h
 | p :: m,hn,i,i',o,h,h'=>by
  have hn':=List.nodup_cons.1 (show (p.2 :: idsM m).Nodup from hn)
  rcases List.mem_cons.1 h with e | h
  ·rcases List.mem_cons.1 h' with e' | h'
   ·have:=e.trans e'.symm; simp at this; exact this
   ·exact absurd (List.mem_map.2 ⟨_,h',by rw [← e]⟩) hn'.1
  ·rcases List.mem_cons.1 h' with e' | h'
   ·exact absurd (List.mem_map.2 ⟨_,h,by rw [← e']⟩) hn'.1
   ·exact inj_snd hn'.2 h h'
theorem putL_isSome (O:List (Nat × Obj)) (H:List (Nat × Obj)):∀ (m:List (Nat × Nat)),(∀ p ∈ m,(look H p.2).isSome = true) → ∀ o,(look (putL O m H) o).isSome = (look H o).isSome
 | [],_,o=>rfl
 | (i,p) :: m,h,o=>by
  have ih:=putL_isSome O H m fun q hq=>h q (by simp [hq])
  simp only [putL]
  split
  ·rw [look_setH p _ _ o (by rw [ih p]; exact h (i,p) (by simp))]
   split
   ·rename_i e; subst e; exact (h (i,p) (by simp)).symm ▸ rfl
   ·exact ih o
  ·exact ih o
theorem putL_other (O:List (Nat × Obj)) (H:List (Nat × Obj)):∀ (m:List (Nat × Nat)),(∀ p ∈ m,(look H p.2).isSome = true) → ∀ o,o ∉ idsM m → look (putL O m H) o = look H o
 | [],_,o,_=>rfl
 | (i,p) :: m,h,o,ho=>by
  have ho':o ≠ p ∧ o ∉ idsM m:=by simpa [idsM] using ho
  have ih:=putL_other O H m (fun q hq=>h q (by simp [hq])) o ho'.2
  simp only [putL]
  split
  ·rw [look_setH p _ _ o (by rw [putL_isSome O H m (fun q hq=>h q (by simp [hq]))]; exact h (i,p) (by simp)),if_neg (fun e=>ho'.1 e.symm)]; exact ih
  ·exact ih
theorem putL_at (O:List (Nat × Obj)) (H:List (Nat × Obj)):∀ (m:List (Nat × Nat)),(∀ p ∈ m,(look H p.2).isSome = true) → (idsM m).Nodup → fullM O m = true → ∀ i o ob,(i,o) ∈ m → look (putL O m H) o = some ob → look O i = some ob
 | [],_,_,_,i,o,ob,h,_=>by simp at h
 | (j,p) :: m,h,hn,hf,i,o,ob,hm,hl=>by
  have hn':=List.nodup_cons.1 (show (p :: idsM m).Nodup from hn)
  simp only [fullM,List.all_cons,Bool.and_eq_true] at hf
  obtain ⟨q,hq⟩:=Option.isSome_iff_exists.1 hf.1
  simp only [putL,hq] at hl
  rw [look_setH p _ _ o (by rw [putL_isSome O H m (fun q hq=>h q (by simp [hq]))]; exact h (j,p) (by simp))] at hl
  rcases List.mem_cons.1 hm with e | hm
  ·obtain ⟨rfl,rfl⟩:=Prod.mk.inj e
   rw [if_pos rfl] at hl; rw [hq]; exact hl
  ·have hne:p ≠ o:=fun e=>hn'.1 (by subst e; exact List.mem_map.2 ⟨_,hm,rfl⟩)
   rw [if_neg hne] at hl
   exact putL_at O H m (fun q hq=>h q (by simp [hq])) hn'.2 hf.2 i o ob hm hl
theorem noOwnM_spec:∀ {vs:List AV} {as:List MA},noOwnM vs as = true → ∀ (j:Nat) (v y:AV),vs[j]? = some v → as[j]? = some (.i y) → noOwn v = true
 | [],_,_,j,v,y,h,_=>by simp at h
 | _ :: _,[],_,j,v,y,_,h=>by simp at h
 | v :: vs,a :: as,h,j,u,y,h1,h2=>by
  cases j with
  | zero =>
   obtain rfl:=Option.some.inj h1; obtain rfl:=Option.some.inj h2
   simp only [noOwnM,Bool.and_eq_true] at h; exact h.1
  | succ j =>
   refine noOwnM_spec (as:=as) ?_ j u y (by simpa using h1) (by simpa using h2)
   cases a <;> simp only [noOwnM,Bool.and_eq_true] at h <;> first | exact h | exact h.2
theorem maO_mem:∀ {as:List MA} {k:Nat} {os:List Obj} {i:Nat} {ob:Obj},look (maO k as os) i = some ob → ob ∈ os
 | [],k,os,i,ob,h=>by simp [maO,look] at h
 | .i _ :: as,k,os,i,ob,h=>maO_mem (as:=as) (k:=k + 1) (by simpa only [maO] using h)
 | .sl _ :: as,k,[],i,ob,h=>by simp [maO,look] at h
 | .pt _ :: as,k,[],i,ob,h=>by simp [maO,look] at h
 | .so _ _ :: as,k,[],i,ob,h=>by simp [maO,look] at h
 | .sl _ :: as,k,o :: os,i,ob,h=>by
  simp only [maO,look_cons] at h
  split at h
  ·obtain rfl:=Option.some.inj h; simp
  ·exact List.mem_cons_of_mem _ (maO_mem h)
 | .pt _ :: as,k,o :: os,i,ob,h=>by
  simp only [maO,look_cons] at h
  split at h
  ·obtain rfl:=Option.some.inj h; simp
  ·exact List.mem_cons_of_mem _ (maO_mem h)
 | .so _ _ :: as,k,o :: os,i,ob,h=>by
  simp only [maO,look_cons] at h
  split at h
  ·obtain rfl:=Option.some.inj h; simp
  ·exact List.mem_cons_of_mem _ (maO_mem h)
theorem maO_low:∀ {as:List MA} {k:Nat} {os:List Obj} {i:Nat} {ob:Obj},(i,ob) ∈ maO k as os → 700000 ≤ i
 | [],k,os,i,ob,h=>by simp [maO] at h
 | .i _ :: as,k,os,i,ob,h=>maO_low (as:=as) (k:=k + 1) (by simpa only [maO] using h)
 | .sl _ :: as,k,[],i,ob,h=>by simp [maO] at h
 | .pt _ :: as,k,[],i,ob,h=>by simp [maO] at h
 | .so _ _ :: as,k,[],i,ob,h=>by simp [maO] at h
 | .sl _ :: as,k,o :: os,i,ob,h=>by
  simp only [maO,List.mem_cons,Prod.mk.injEq] at h
  rcases h with ⟨rfl,-⟩ | h
  ·omega
  ·exact maO_low h
 | .pt _ :: as,k,o :: os,i,ob,h=>by
  simp only [maO,List.mem_cons,Prod.mk.injEq] at h
  rcases h with ⟨rfl,-⟩ | h
  ·omega
  ·exact maO_low h
 | .so _ _ :: as,k,o :: os,i,ob,h=>by
  simp only [maO,List.mem_cons,Prod.mk.injEq] at h
  rcases h with ⟨rfl,-⟩ | h
  ·omega
  ·exact maO_low h
theorem ObjRep.flat {F F':Nat → Prop} {w:World} {ob:Obj} {L:Loc} (h:ObjRep F w ob L) (hf:flatO ob):ObjRep F' w ob L:=by
 obtain ⟨h1,h2,h3,h4,cs,ty,h5,h6,h7⟩:=h
 refine ⟨h1,h2,h3,h4,cs,ty,h5,h6,fun e el j x he hx=>?_⟩
 obtain ⟨v,hv,hr⟩:=h7 e el j x he hx
 exact ⟨v,hv,hr.of_flat (hf el (List.mem_of_getElem? he) x (List.mem_of_getElem? hx))⟩
theorem Base.Kept.comp {z:Base} {w w':World} {D:Nat → Prop} {ρ:Locs} (h:z.Kept w) (hD:∀ b,D b → z.mine b) (k:Base.Kept ⟨w,D,ρ⟩ w'):z.Kept w' :=
 ⟨k.os.trans h.os,k.tape.trans h.tape,k.output.trans h.output,Nat.le_trans h.size k.size,fun i hi=>by
  rw [k.block i ?_]
  ·exact h.block i hi
  ·rintro (h1 | h1)
   ·exact hi (.inl (Nat.le_trans h.size h1))
   ·exact hi (hD i h1),Nat.le_trans h.drawn k.drawn⟩
theorem call_step {E:Env} {F:Nat → Prop} {ρ:Locs} {T:List (Nat × AV)} {H:List (Nat × Obj)} {o:Oper} {a:Act} {w:World} (hp:Pre E F ρ T H o a w) {g:FuncId} {vs:List AV} (hc:calleeA E T o.op = some (g,vs)) :
  ∃ cargs:Array Value,(execOp a.eval o).run E.P w = (callFunc g cargs).run E.P w ∧ cargs.size = vs.length ∧
   ∀ (j:Nat) (x:AV) (v:Value),vs[j]? = some x → cargs[j]? = some v → RepA F ρ w x v:=by
 cases hop:o.op <;> rw [hop] at hc <;> simp only [calleeA] at hc <;> (try (simp at hc; done))
 rename_i c
 obtain ⟨callee,xs,ats⟩:=c
 cases callee <;> simp only [] at hc <;> (try (simp at hc; done))
 rename_i f
 have hf:f ∈ o.op.operands:=by rw [hop]; simp [Op.operands,Call.operands]
 have hxs:∀ x ∈ xs.toList,x ∈ o.op.operands:=by
  intro x hx; rw [hop]; simp only [Op.operands,Call.operands]
  exact Array.mem_append.2 (.inr (Array.mem_toList_iff.1 hx))
 split at hc
 ·rename_i g' caps us hfv hus
  obtain ⟨rfl,rfl⟩:=Prod.mk.inj (Option.some.inj hc)
  have h1:=hp.ev hf hfv
  obtain ⟨h2,h3⟩:=hp.evL hxs hus
  generalize hfe:a.eval f = fv at h1
  cases h1 with | fn _ _ cs hs hr =>
  refine ⟨xs.map a.eval ++ cs, ?_,by simp [h2,hs],fun j x v hx hv=>?_⟩
  ·unfold execOp; rw [hop]; simp [resolve,hfe,Deferred.ofValue,invoke]
  ·rw [List.getElem?_append] at hx
   rw [Array.getElem?_append] at hv
   simp only [Array.size_map] at hv
   have e:xs.size = us.length:=by simp [h2]
   rw [e] at hv
   split at hx
   ·rename_i hj
    rw [if_pos hj] at hv
    exact h3 j x v hx (by simpa using hv)
   ·rename_i hj
    rw [if_neg hj] at hv
    exact hr _ x v hx hv
 ·rename_i g' caps us hfv hus
  obtain ⟨rfl,rfl⟩:=Prod.mk.inj (Option.some.inj hc)
  have h1:=hp.ev hf hfv
  obtain ⟨h2,h3⟩:=hp.evL hxs hus
  generalize hfe:a.eval f = fv at h1
  cases h1 with | i _ _ h1=>cases h1 with | fn _ _ cs hs hr =>
  refine ⟨xs.map a.eval ++ cs, ?_,by simp [h2,hs],fun j x v hx hv=>?_⟩
  ·unfold execOp; rw [hop]; simp [resolve,hfe,Deferred.ofValue,invoke]
  ·rw [List.getElem?_append] at hx
   rw [Array.getElem?_append] at hv
   simp only [Array.size_map] at hv
   have e:xs.size = us.length:=by simp [h2]
   rw [e] at hv
   split at hx
   ·rename_i hj
    rw [if_pos hj] at hv
    exact h3 j x v hx (by simpa using hv)
   ·rename_i hj
    rw [if_neg hj] at hv
    rw [List.getElem?_map] at hx
    obtain ⟨y,hy',rfl⟩:=Option.map_eq_some_iff.1 hx
    exact .i _ _ (hr _ y v hy' hv)
 ·simp at hc
theorem mutCall_wp {E:Env} {w0:Base} {F0:Nat → Prop} {n:Nat} {st:St} {a:Act} {w:World} {F:Nat → Prop} {ρ:Locs} (hx:Ctx E w0 F0) (h:Fit w0 F0 n st a w F ρ)
  {o:Oper} (hd:∀ d,o.dst = some d → d < n) {g:FuncId} {vs:List AV} (hc:calleeA E st.T o.op = some (g,vs)) {args:List MA} {outs:List Obj} {rs:List RV} {part:Option (Nat × Nat × Nat)} (hpm:PM E g args outs rs part)
  (hfit:fitM st.H (without (idsM (midM 0 vs args)) st.H) vs args) (hnd:(idsM (midM 0 vs args)).Nodup) (hfull:fullM (maO 0 args outs) (midM 0 vs args) = true)
  (hlend:noOwnM vs args = true ∨ (∀ r ∈ rs,flatR r) ∧ ∀ ob ∈ outs,flatO ob) {d:Nat} (hfresh:∀ o,(look (resA d rs).2 o).isSome = true → look st.H o = none ∧ o < 700000) (Q:Exit → Act → World → Prop) :
  o.wp E.P a w (Fits w0 F0 n ⟨putT o.dst (valP part (midM 0 vs args) (resA d rs).1) st.T,(resA d rs).2 ++ putL (maO 0 args outs) (midM 0 vs args) st.H⟩) Q:=by
 have hp:=h.pre hx o
 obtain ⟨cargs,hrun,hsz,hargs⟩:=call_step hp hc
 obtain ⟨hl1,hl2⟩:=fitM_spec hfit
 generalize hm:midM 0 vs args = m at *
 generalize hHi:without (idsM m) st.H = Hi at *
 generalize hρc:(fun i=>(look m i).bind ρ:Locs) = ρc
 have hblt:∀ o' ob' L1,look st.H o' = some ob' → ρ o' = some L1 → L1.b < w.heap.size:=by
  intro o' ob' L1 ho' hL
  obtain ⟨cs,ty,h3,-⟩:=(h.heap.obj o' ob' L1 ho' hL).1.at_
  exact (Array.getElem?_eq_some_iff.1 h3).1
 have hmid:∀ i ob,look (maH 0 args) i = some ob → ∃ o',look m i = some o' ∧ look st.H o' = some ob:=by
  intro i ob hi
  obtain ⟨j,b,h1,h2,h3⟩:=maH_get hi
  have hj:j < vs.length:=by rw [hl1]; exact (List.getElem?_eq_some_iff.1 h1).1
  have hf:=hl2 j _ b (List.getElem?_eq_getElem hj) h1
  have hv:=List.getElem?_eq_getElem hj
  generalize vs[j] = v at hf hv
  subst h2
  rcases h3 with rfl | rfl | ⟨f,rfl⟩
  ·cases v <;> simp only [fit1] at hf
   rename_i o' off len
   exact ⟨o',by rw [← hm]; exact midM_at hv h1 rfl,hf.2.2⟩
  ·cases v <;> simp only [fit1] at hf
   rename_i o' e j'
   exact ⟨o',by rw [← hm]; exact midM_at hv h1 rfl,hf.2.2⟩
  ·cases v <;> simp only [fit1] at hf
   rename_i o' off len
   exact ⟨o',by rw [← hm]; exact midM_at hv h1 rfl,hf.2.2⟩
 have hlookm:∀ i o',(i,o') ∈ m → look m i = some o':=by
  intro i o' hmem
  rw [← hm] at hmem ⊢
  obtain ⟨j,v,b,h1,h2,rfl,h4⟩:=midM_mem hmem
  exact midM_at h1 h2 h4
 have hinm:∀ p ∈ m,(look st.H p.2).isSome = true:=by
  rintro ⟨i,o'⟩ hmem
  rw [← hm] at hmem
  obtain ⟨j,v,b,h1,h2,-,h4⟩:=midM_mem hmem
  have hf:=hl2 j v b h1 h2
  cases b with
  | i y=>cases v <;> simp [midOf] at h4
  | sl ob =>
   cases v <;> simp only [fit1] at hf
   obtain rfl:=Option.some.inj h4
   simp only [hf.2.2]; rfl
  | pt ob =>
   cases v <;> simp only [fit1] at hf
   obtain rfl:=Option.some.inj h4
   simp only [hf.2.2]; rfl
  | so ob f =>
   cases v <;> simp only [fit1] at hf
   obtain rfl:=Option.some.inj h4
   simp only [hf.2.2]; rfl
 have hρ1:∀ i L,ρc i = some L → ∃ o',look m i = some o' ∧ ρ o' = some L:=by
  intro i L hi
  rw [← hρc] at hi
  obtain ⟨o',h1,h2⟩:=Option.bind_eq_some_iff.1 hi
  exact ⟨o',h1,h2⟩
 have hρ2:∀ i o' L,look m i = some o' → ρ o' = some L → ρc i = some L:=by
  intro i o' L h1 h2
  rw [← hρc]
  exact Option.bind_eq_some_iff.2 ⟨o',h1,h2⟩
 have hDm:∀ b,Dm ρc (maH 0 args) b → ∃ i o' ob L,look m i = some o' ∧ look st.H o' = some ob ∧ ρ o' = some L ∧ L.b = b:=by
  rintro b ⟨i,ob,L,h1,h2,h3⟩
  obtain ⟨o',g1,g2⟩:=hmid i ob h1
  obtain ⟨o'',g3,g4⟩:=hρ1 i L h2
  obtain rfl:=Option.some.inj (g1.symm.trans g3)
  exact ⟨i,o',ob,L,g1,g2,g4,h3⟩
 have hDF:∀ b,Dm ρc (maH 0 args) b → ¬ F b:=by
  intro b hb
  obtain ⟨i,o',ob,L,-,h2,h3,rfl⟩:=hDm b hb
  exact (h.heap.obj o' ob L h2 h3).2.2
 have hDmine:∀ b,Dm ρc (maH 0 args) b → w0.mine b:=by
  intro b hb
  obtain ⟨i,o',ob,L,-,h2,h3,rfl⟩:=hDm b hb
  exact (h.heap.obj o' ob L h2 h3).2.1
 have hobjHi:∀ id ob L,look Hi id = some ob → ρ id = some L → ObjRep F w ob L:=fun id ob L h1 h2=>by
  rw [← hHi] at h1
  exact (h.heap.obj id ob L (look_without h1).1 h2).1
 have hFc:∃ Fc:Nat → Prop,(∀ b,F b → Fc b) ∧ (∀ b,Fc b → b < w.heap.size) ∧ (∀ i o' ob L,look m i = some o' → look st.H o' = some ob → ρ o' = some L → ¬ Fc L.b) ∧
   (∀ (j:Nat) (v:AV) (y:AV) (u:Value),vs[j]? = some v → args[j]? = some (.i y) → RepA F ρ w v u → RepA Fc ρc w y u) ∧
   (∀ (w':World) (Fc':Nat → Prop) us ls,(∀ b,Fc b → Fc' b) → (∀ b,Fc' b → Fc b ∨ w.heap.size ≤ b) → (∀ b,Fc' b → b < w'.heap.size) → w.heap.size ≤ w'.heap.size → RepRs Fc' w.heap.size w' rs us ls →
    (∀ i ob L,look (maO 0 args outs) i = some ob → ρc i = some L → ObjRep Fc' w' ob L ∧ ¬ Fc' L.b) →
    ∃ F':Nat → Prop,(∀ b,F b → F' b) ∧ (∀ b,F' b → F b ∨ w.heap.size ≤ b) ∧ (∀ b,F' b → b < w'.heap.size) ∧ RepRs F' w.heap.size w' rs us ls ∧ ∀ i ob L,look (maO 0 args outs) i = some ob → ρc i = some L → ObjRep F' w' ob L ∧ ¬ F' L.b):=by
  rcases hlend with hno | ⟨hflat,hflo⟩
  ·refine ⟨F,fun _ h=>h,h.lt,fun i o' ob L _ h2 h3=>(h.heap.obj o' ob L h2 h3).2.2,fun j v y u h1 h2 h3=>?_,fun w' Fc' us ls h1 h2 h3 _ h4 h5=>⟨Fc',h1,h2,h3,h4,h5⟩⟩
   have hf:=hl2 j v _ h1 h2
   exact (immA_noOwn h3 hf (noOwnM_spec hno j v y h1 h2)).mono (fun _ h=>h) (fun _ _=>rfl) fun _ _ h=>by simp at h
  ·refine ⟨Lent F ρ Hi,fun _ h=>.inl h,fun b hb=>?_,fun i o' ob L h1 h2 h3=>?_,fun j v y u h1 h2 h3=>?_,fun w' Fc' us ls h1 h2 h3 hsz' h4 h5=>?_⟩
   ·rcases hb with hb | ⟨o',ob,L,g1,g2,rfl⟩
    ·exact h.lt b hb
    ·rw [← hHi] at g1; exact hblt o' ob L (look_without g1).1 g2
   ·rintro (hb | ⟨o2,ob2,L2,g1,g2,g3⟩)
    ·exact (h.heap.obj o' ob L h2 h3).2.2 hb
    ·rw [← hHi] at g1
     obtain ⟨g4,g5⟩:=look_without g1
     have:=h.heap.apart o2 o' ob2 ob L2 L g4 h2 g2 h3 g3
     subst this
     exact g5 (List.mem_map.2 ⟨_,look_memP h1,rfl⟩)
   ·have hf:=hl2 j v _ h1 h2
    exact (immA_rep hobjHi h3 hf).mono (fun _ h=>h) (fun _ _=>rfl) fun _ _ h=>by simp at h
   ·refine ⟨F,fun _ h=>h,fun _ h=>.inl h,fun b hb=>Nat.lt_of_lt_of_le (h.lt b hb) hsz',⟨h4.len,fun k r v hk hv=>(h4.rep k r v hk hv).flat (hflat r (List.mem_of_getElem? hk)) h.lt,h4.apart⟩,fun i ob L g1 g2=>?_⟩
    obtain ⟨q1,q2⟩:=h5 i ob L g1 g2
    exact ⟨q1.flat (hflo ob (maO_mem g1)),fun hF=>q2 (h1 _ (.inl hF))⟩
 obtain ⟨Fc,c1,c2,c3,c4,c5⟩:=hFc
 unfold Oper.wp
 rw [hrun,goes_run hpm.goes]
 show Calls E.P g cargs w _
 refine (hpm.run Fc ρc w cargs (hp.glob.mono c1 fun _ _=>rfl) c2 (by omega) (fun j x v hj hv=>?_) ⟨fun i ob L h1 h2=>?_,fun i ob h1 hne=>?_,fun i i' ob ob' L L' h1 h2 h3 h4 hbb=>?_⟩ fun i L hi=>?_).mono ?_
 ·obtain ⟨b,h1,rfl⟩:=maA_get hj
  have hj':j < vs.length:=by rw [hl1]; exact (List.getElem?_eq_some_iff.1 h1).1
  have hvj:=List.getElem?_eq_getElem hj'
  have hf:=hl2 j _ b hvj h1
  have hr:=hargs j _ v hvj hv
  generalize vs[j] = u at hf hr hvj
  cases b with
  | i y=>exact c4 j u y v hvj h1 hr
  | sl ob =>
   cases u <;> simp only [fit1] at hf
   rename_i o' off len
   obtain ⟨rfl,rfl,hob⟩:=hf
   have hmi:look m (700000 + (0 + j)) = some o':=by rw [← hm,← Nat.add_assoc]; exact midM_at hvj h1 rfl
   simp only [ma1]
   generalize ob.els.length = len at hr
   cases hr with
   | own _ _ _ c L ho hmL hlc hN=>exact .own _ _ _ c L (hρ2 _ _ _ hmi ho) hmL hlc hN
   | ownE _ _ ad=>exact .ownE _ _ _
  | pt ob =>
   cases u <;> simp only [fit1] at hf
   rename_i o' e j'
   obtain ⟨rfl,rfl,hob⟩:=hf
   have hmi:look m (700000 + (0 + j)) = some o':=by rw [← hm,← Nat.add_assoc]; exact midM_at hvj h1 rfl
   cases hr with | ptr _ _ _ L ho=>exact .ptr _ _ _ L (hρ2 _ _ _ hmi ho)
  | so ob f =>
   cases u <;> simp only [fit1] at hf
   rename_i o' off len
   obtain ⟨rfl,rfl,hob⟩:=hf
   have hmi:look m (700000 + (0 + j)) = some o':=by rw [← hm,← Nat.add_assoc]; exact midM_at hvj h1 rfl
   simp only [ma1]
   generalize ob.els.length - off = len at hr
   cases hr with
   | own _ _ _ c L ho hmL hlc hN=>exact .own _ _ _ c L (hρ2 _ _ _ hmi ho) hmL hlc hN
   | ownE _ _ ad=>exact .ownE _ _ _
 ·obtain ⟨o',g1,g2⟩:=hmid i ob h1
  obtain ⟨o'',g3,g4⟩:=hρ1 i L h2
  obtain rfl:=Option.some.inj (g1.symm.trans g3)
  exact ⟨(h.heap.obj o' ob L g2 g4).1.mono c1 (fun _ _=>rfl) rfl,trivial,c3 i o' ob L g1 g2 g4⟩
 ·obtain ⟨o',g1,g2⟩:=hmid i ob h1
  obtain ⟨L,hL⟩:=Option.isSome_iff_exists.1 (h.heap.sm o' ob g2 hne)
  rw [hρ2 i o' L g1 hL]; rfl
 ·obtain ⟨o1,g1,g2⟩:=hmid i ob h1
  obtain ⟨o1',g3,g4⟩:=hρ1 i L h3
  obtain rfl:=Option.some.inj (g1.symm.trans g3)
  obtain ⟨o2,g5,g6⟩:=hmid i' ob' h2
  obtain ⟨o2',g7,g8⟩:=hρ1 i' L' h4
  obtain rfl:=Option.some.inj (g5.symm.trans g7)
  have:=h.heap.apart o1 o2 ob ob' L L' g2 g6 g4 g8 hbb
  subst this
  exact inj_snd hnd (look_memP g1) (look_memP g5)
 ·obtain ⟨o',g1,g2⟩:=hρ1 i L hi
  rw [← hm] at g1
  obtain ⟨j,v,b,q1,q2,rfl,q4⟩:=midM_get g1
  cases b with
  | i y=>cases v <;> simp [midOf] at q4
  | sl ob=>rw [maH_at q2 (.inl rfl)]; rfl
  | pt ob=>rw [maH_at q2 (.inr (.inl rfl))]; rfl
  | so ob f=>rw [maH_at q2 (.inr (.inr ⟨f,rfl⟩))]; rfl
 ·rintro e w' ⟨us,Fc',ls,u,rfl,hret,hk,k1,k2,k3,k4,k5⟩
  obtain ⟨F',f1,f2,f3,f4,f5⟩:=c5 w' Fc' us ls k1 k2 k3 hk.size k4 k5
  have hFw:∀ b,F b → w'.heap[b]? = w.heap[b]?:=fun b hb=>hk.block b fun hmine=>by
   rcases hmine with h1 | h1
   ·exact absurd (h.lt b hb) (Nat.not_lt.2 h1)
   ·exact hDF b h1 hb
  obtain ⟨t1,t2,t3,t4,t5⟩:=f4.take (F:=F) (ρ:=ρ) (d:=d) (w:=w) f1 f2 f3
  have hρ':∀ o' L,ρ o' = some L → resρ ρ d rs ls o' = some L:=by
   intro o' L hL
   have g1:=h.dom o' L hL
   rw [t2 o' ?_]
   ·exact hL
   ·cases hq:look (resA d rs).2 o' with
    | none=>rfl
    | some x=>have:=(hfresh o' (by rw [hq]; rfl)).1; rw [this] at g1; simp at g1
  have t1:RepA F' (resρ ρ d rs ls) w' (valP part m (resA d rs).1) u:=by
   cases part with
   | none=>obtain rfl:u = packV us:=hret; exact t1
   | some p =>
    obtain ⟨j,off,len⟩:=p
    have hret':RepA Fc' ρc w' (.own (700000 + j) off len) u:=hret
    simp only [valP]
    cases hret' with
    | own _ _ _ c L ho hmL hlc hN =>
     obtain ⟨o',g1,g2⟩:=hρ1 _ _ ho
     rw [g1]
     exact .own o' off len c L (hρ' o' L g2) hmL hlc hN
    | ownE _ _ ad =>
     split
     ·exact .ownE _ _ _
     ·exact .dead _
  have hlk:∀ o' ob,look ((resA d rs).2 ++ putL (maO 0 args outs) m st.H) o' = some ob → look (resA d rs).2 o' = some ob ∨ (look (resA d rs).2 o' = none ∧ look (putL (maO 0 args outs) m st.H) o' = some ob):=by
   intro o' ob ho
   rw [look_append] at ho
   split at ho
   ·rename_i q hq; obtain rfl:=Option.some.inj ho; exact .inl hq
   ·rename_i hq; exact .inr ⟨hq,ho⟩
  have hold:∀ o' ob L,look (putL (maO 0 args outs) m st.H) o' = some ob → ρ o' = some L → (∃ ob0,look st.H o' = some ob0) ∧ ObjRep F' w' ob L ∧ w0.mine L.b ∧ ¬ F' L.b:=by
   intro o' ob L ho hL
   by_cases hin:o' ∈ idsM m
   ·obtain ⟨⟨i,o2⟩,hmem,rfl⟩:=List.mem_map.1 hin
    have hO:=putL_at _ _ m hinm hnd hfull i o2 ob hmem ho
    obtain ⟨ob0,hob0⟩:=Option.isSome_iff_exists.1 (hinm _ hmem)
    have hmi:look m i = some o2:=hlookm i o2 hmem
    obtain ⟨q1,q2⟩:=f5 i ob L hO (hρ2 i o2 L hmi hL)
    exact ⟨⟨ob0,hob0⟩,q1,(h.heap.obj o2 ob0 L hob0 hL).2.1,q2⟩
   ·rw [putL_other _ _ m hinm o' hin] at ho
    obtain ⟨q1,q2,q3⟩:=h.heap.obj o' ob L ho hL
    refine ⟨⟨ob,ho⟩,q1.mono f1 hFw (hk.block _ fun hmine=>?_),q2,fun hF=>?_⟩
    ·rcases hmine with h1 | h1
     ·exact absurd (hblt o' ob L ho hL) (Nat.not_lt.2 h1)
     ·obtain ⟨i,o2,ob2,L2,g1,g2,g3,g4⟩:=hDm _ h1
      have:=h.heap.apart o2 o' ob2 ob L2 L g2 ho g3 hL g4
      subst this
      exact hin (List.mem_map.2 ⟨_,look_memP g1,rfl⟩)
    ·rcases f2 _ hF with hF | hF
     ·exact q3 hF
     ·exact absurd (hblt o' ob L ho hL) (Nat.not_lt.2 hF)
  refine ⟨F',resρ ρ d rs ls,⟨⟨h.below.comp hDmine hk, ?_, ?_,fun b hb=>f1 b (h.sub b hb),fun b hb=>?_,f3, ?_,⟨fun o' ob L ho hL=>?_,fun o' ob ho hne=>?_,fun o1 o2 ob1 ob2 L1 L2 h1 h2 g1 g2 hbb=>?_⟩⟩,fun o' L hL=>?_,fun o' h7 ho=>?_⟩⟩
  ·rw [put_defers']; exact h.defers
  ·rw [put_size']; exact h.size
  ·rcases f2 b hb with hb | hb
   ·exact h.sup b hb
   ·exact .inr (.inl (Nat.le_trans h.below.size hb))
  ·exact fit_tmps (fun t u hu=>(h.tmps t u hu).mono f1 hFw hρ') t1 (fun d' hd'=>by rw [h.size]; exact hd d' hd')
  ·rcases hlk o' ob ho with ho | ⟨hn,ho⟩
   ·obtain ⟨q1,q2,q3⟩:=t3 o' ob L ho hL
    exact ⟨q1,.inl (Nat.le_trans h.below.size q2),q3⟩
   ·rw [t2 o' hn] at hL
    exact (hold o' ob L ho hL).2
  ·rcases hlk o' ob ho with ho | ⟨hn,ho⟩
   ·exact t4 o' ob ho hne
   ·rw [t2 o' hn]
    by_cases hin:o' ∈ idsM m
    ·obtain ⟨⟨i,o2⟩,hmem,rfl⟩:=List.mem_map.1 hin
     have hO:=putL_at _ _ m hinm hnd hfull i o2 ob hmem ho
     obtain ⟨j,v,b,q1,q2,rfl,q4⟩:=midM_mem (hm ▸ hmem)
     have hf:=hl2 j v b q1 q2
     have fin:∀ ob0,look (maH 0 args) (700000 + 0 + j) = some ob0 → look st.H o2 = some ob0 → (ρ o2).isSome = true:=by
      intro ob0 g1 g2
      refine h.heap.sm o2 ob0 g2 fun e0=>hne ?_
      have:=hpm.lens _ _ _ g1 hO
      rw [e0] at this
      exact List.eq_nil_of_length_eq_zero this
     cases b with
     | i y=>cases v <;> simp [midOf] at q4
     | sl ob0 =>
      cases v <;> simp only [fit1] at hf
      obtain rfl:=Option.some.inj q4
      exact fin ob0 (maH_at q2 (.inl rfl)) hf.2.2
     | pt ob0 =>
      cases v <;> simp only [fit1] at hf
      obtain rfl:=Option.some.inj q4
      exact fin ob0 (maH_at q2 (.inr (.inl rfl))) hf.2.2
     | so ob0 f =>
      cases v <;> simp only [fit1] at hf
      obtain rfl:=Option.some.inj q4
      exact fin ob0 (maH_at q2 (.inr (.inr ⟨f,rfl⟩))) hf.2.2
    ·rw [putL_other _ _ m hinm o' hin] at ho
     exact h.heap.sm o' ob ho hne
  ·rcases hlk o1 ob1 h1 with h1 | ⟨n1,h1⟩ <;> rcases hlk o2 ob2 h2 with h2 | ⟨n2,h2⟩
   ·exact t5 o1 o2 ob1 ob2 L1 L2 h1 h2 g1 g2 hbb
   ·rw [t2 o2 n2] at g2
    obtain ⟨⟨ob0,q0⟩,-⟩:=hold o2 ob2 L2 h2 g2
    have:=hblt o2 ob0 L2 q0 g2
    have:=(t3 o1 ob1 L1 h1 g1).2.1
    omega
   ·rw [t2 o1 n1] at g1
    obtain ⟨⟨ob0,q0⟩,-⟩:=hold o1 ob1 L1 h1 g1
    have:=hblt o1 ob0 L1 q0 g1
    have:=(t3 o2 ob2 L2 h2 g2).2.1
    omega
   ·rw [t2 o1 n1] at g1; rw [t2 o2 n2] at g2
    obtain ⟨⟨oa,qa⟩,-⟩:=hold o1 ob1 L1 h1 g1
    obtain ⟨⟨ob,qb⟩,-⟩:=hold o2 ob2 L2 h2 g2
    exact h.heap.apart o1 o2 oa ob L1 L2 qa qb g1 g2 hbb
  ·show (look ((resA d rs).2 ++ putL (maO 0 args outs) m st.H) o').isSome = true
   rw [look_append]
   cases hq:look (resA d rs).2 o' with
   | some x=>rfl
   | none =>
    simp only
    rw [putL_isSome _ _ m hinm]
    rw [t2 o' hq] at hL; exact h.dom o' L hL
  ·have ho':(look ((resA d rs).2 ++ putL (maO 0 args outs) m st.H) o').isSome = true:=ho
   rw [look_append] at ho'
   cases hq:look (resA d rs).2 o' with
   | some x=>have:=(hfresh o' (by rw [hq]; rfl)).2; omega
   | none =>
    rw [hq] at ho'
    simp only at ho'
    rw [putL_isSome _ _ m hinm] at ho'
    rw [t2 o' hq]; exact h.pin o' h7 ho'
end Go.Vai
