/- Texts of this claim: Zv15. -/
import Derived.Test.YtiipeibaiphmpaaGreatDoorTv14
set_option linter.unusedVariables false
set_option linter.unusedSimpArgs false
namespace Go.Vai
def numT:Nat → List AV → List (Nat × AV)
 | _,[]=>[]
 | k,v :: l=>(k,v) :: numT (k + 1) l
theorem look_numT:∀ (l:List AV) (k t:Nat) (v:AV),look (numT k l) t = some v → k ≤ t ∧ l[t - k]? = some v
 | [],k,t,v,h=>by simp [numT,look] at h
 | x :: l,k,t,v,h=>by
  simp only [numT,look_cons] at h
  split at h
  ·rename_i hk; subst hk; exact ⟨Nat.le_refl _,by simpa using h⟩
  ·obtain ⟨h1,h2⟩:=look_numT l (k + 1) t v h
   refine ⟨by omega, ?_⟩
   rw [show t - k = (t - (k + 1)) + 1 by omega]; simpa using h2
def resV (E:Env) (st:St):List ResultVar → Option (List AV)
 | []=>some []
 | .tmp t :: l=>match look st.T t,resV E st l with
  | some v,some vs=>some (v :: vs)
  | _,_=>none
 | .cell t ty :: l=>match look st.T t with
  | some p=>match loadA E st.H ty p,resV E st l with
   | some v,some vs=>some (v :: vs)
   | _,_=>none
  | none=>none
def ownIds:List AV → List RV → List Nat
 | .own o _ _ :: vs,.own _ _ :: rs=>o :: ownIds vs rs
 | .ptr o _ _ :: vs,.pt _ _ :: rs=>o :: ownIds vs rs
 | _ :: vs,_ :: rs=>ownIds vs rs
 | _,_=>[]
def ownR (H:List (Nat × Obj)) (v:AV) (sz:Nat) (els:List (List IV)):Prop:=match v with
 | .esl=>els = []
 | .own o off len=>match look H o with
  | some ob=>ob.sz = sz ∧ els = (ob.els.drop off).take len
  | none=>False
 | _=>False
theorem ownR_spec {H:List (Nat × Obj)} {v:AV} {sz:Nat} {els:List (List IV)} (h:ownR H v sz els):(v = .esl ∧ els = []) ∨ ∃ o off len ob,v = .own o off len ∧ look H o = some ob ∧ ob.sz = sz ∧ els = (ob.els.drop off).take len:=by
 unfold ownR at h
 split at h
 ·exact .inl ⟨rfl,h⟩
 ·split at h
  ·rename_i ob hob; exact .inr ⟨_,_,_,ob,rfl,hob,h.1,h.2⟩
  ·exact h.elim
 ·exact h.elim
def ptR (H:List (Nat × Obj)) (v:AV) (sz:Nat) (el:List IV):Prop:=match v with
 | .ptr o e j=>e = 0 ∧ j = 0 ∧ look H o = some ⟨sz,[el]⟩
 | _=>False
def retV (H Hd:List (Nat × Obj)):List AV → List RV → Prop
 | [],[]=>True
 | v :: vs,r :: rs=>(match r with
  | .i x=>immC Hd v = some x
  | .agg cells=>v = .agg cells
  | .own sz els=>ownR H v sz els
  | .pt sz el=>ptR H v sz el) ∧ retV H Hd vs rs
 | _,_=>False
def RetX (E:Env) (fn:Func) (rs:List RV) (st:St):Prop :=
 ∃ vs,resV E st fn.results.toList = some vs ∧ nodupB (ownIds vs rs) = true ∧ retV st.H (without (ownIds vs rs) st.H) vs rs
def retQ (E:Env) (fn:Func) (rs:List RV):Exit → St → Prop
 | .normal,st=>RetX E fn rs st
 | .ret,st=>RetX E fn rs st
 | _,_=>False
def resOne (tmps:Array Value):ResultVar → Sem Value
 | .tmp t=>pure (tmps.getD t undef)
 | .cell a t=>do loadVar t (← asAddr (tmps.getD a undef))
theorem results_eq (fn:Func) (tmps:Array Value):results fn tmps = (do
  let vs ← fn.results.mapM (resOne tmps)
  pure (if h:vs.size = 1 then vs[0] else .tuple vs)):=by
 unfold results
 congr 2
theorem asAddr_run {P:Program} {w:World} (ad:Addr):(asAddr (.pointer (some ad))).run P w = .ok ad w:=rfl
theorem resV_run {E:Env} (hE:E.Ok) {F:Nat → Prop} {ρ:Locs} {w:World} {st:St} {a:Act} (htmps:∀ t v,look st.T t = some v → RepA F ρ w v (a.tmps.getD t undef))
  (hobj:∀ id ob L,look st.H id = some ob → ρ id = some L → ObjRep F w ob L):∀ {l:List ResultVar} {vs:List AV},resV E st l = some vs →
  ∃ us:List Value,(l.mapM (resOne a.tmps)).run E.P w = .ok us w ∧ us.length = vs.length ∧ ∀ (j:Nat) (x:AV) (v:Value),vs[j]? = some x → us[j]? = some v → RepA F ρ w x v
 | [],vs,h=>by obtain rfl:=Option.some.inj h; exact ⟨[],by simp,rfl,by simp⟩
 | .tmp t :: l,vs,h=>by
  simp only [resV] at h
  split at h <;> (try (simp at h; done))
  rename_i v vs' hv hvs
  obtain rfl:=Option.some.inj h
  obtain ⟨us,h1,h2,h3⟩:=resV_run hE htmps hobj hvs
  refine ⟨a.tmps.getD t undef :: us, ?_,by simp [h2],fun j=>?_⟩
  ·simp only [List.mapM_cons,resOne,Sem.run_bind,Sem.run_pure,Result.andThen_ok,h1]
  ·cases j with
   | zero=>simp only [List.getElem?_cons_zero,Option.some.injEq]; rintro _ _ rfl rfl; exact htmps t v hv
   | succ j=>simpa using h3 j
 | .cell p t :: l,vs,h=>by
  simp only [resV] at h
  split at h <;> (try (simp at h; done))
  rename_i pv hp
  split at h <;> (try (simp at h; done))
  rename_i v vs' hv hvs
  obtain rfl:=Option.some.inj h
  obtain ⟨us,h1,h2,h3⟩:=resV_run hE htmps hobj hvs
  obtain ⟨u,hu,hrun⟩:=loadA_run hE hobj (htmps p pv hp) hv
  have haddr:∃ ad,a.tmps.getD p undef = .pointer (some ad):=by
   have hr:=htmps p pv hp
   generalize a.tmps.getD p undef = x at hr
   unfold loadA at hv
   split at hv <;> (try (simp at hv; done))
   split at hv <;> (try (simp at hv; done))
   ·cases hr with | ptr=>exact ⟨_,rfl⟩
   ·cases hr with | i _ _ hr =>
    obtain ⟨b,off,rfl,-⟩:=hr.ptr_cells
    exact ⟨_,rfl⟩
   ·cases hr with | cell=>exact ⟨_,rfl⟩
  obtain ⟨ad,had⟩:=haddr
  rw [had] at hrun
  refine ⟨u :: us, ?_,by simp [h2],fun j=>?_⟩
  ·have hrun':(loadVar t ad).run E.P w = .ok u w:=by simpa [Instr.loadAt,Instr.sureAddr] using hrun
   simp only [List.mapM_cons,resOne,Sem.run_bind,had,asAddr_run,Sem.run_pure,Result.andThen_ok,hrun',h1]
  ·cases j with
   | zero=>simp only [List.getElem?_cons_zero,Option.some.injEq]; rintro _ _ rfl rfl; exact hu
   | succ j=>simpa using h3 j
theorem packV_results {us:List Value}:(if h:us.toArray.size = 1 then us.toArray[0] else Value.tuple us.toArray) = packV us:=by
 match us with
 | []=>simp [packV]
 | [v]=>simp [packV]
 | v :: u :: l=>simp [packV]
theorem retV_rep {F:Nat → Prop} {ρ:Locs} {B:Nat} {w:World} {H:List (Nat × Obj)} {us:List Nat} (hobj:∀ id ob L,look H id = some ob → ρ id = some L → ObjRep F w ob L ∧ ¬ F L.b)
  (hap:∀ o o' ob ob' L L',look H o = some ob → look H o' = some ob' → ρ o = some L → ρ o' = some L' → L.b = L'.b → o = o') :
  ∀ (vs:List AV) (rs:List RV),retV H (without us H) vs rs → (∀ o ∈ ownIds vs rs,o ∈ us) → (ownIds vs rs).Nodup → (∀ o ob L,o ∈ ownIds vs rs → look H o = some ob → ρ o = some L → B ≤ L.b) → ∀ (xs:List Value),xs.length = vs.length → (∀ (j:Nat) (x:AV) (v:Value),vs[j]? = some x → xs[j]? = some v → RepA F ρ w x v) →
   ∃ ls:Nat → Option Loc,RepRs (Lent F ρ (without us H)) B w rs xs ls ∧ ∀ k L,ls k = some L → ∃ o ob,o ∈ ownIds vs rs ∧ look H o = some ob ∧ ∃ L0,ρ o = some L0 ∧ L0.b = L.b:=by
 have hobj':∀ id ob L,look (without us H) id = some ob → ρ id = some L → ObjRep F w ob L:=fun id ob L h1 h2=>(hobj id ob L (look_without h1).1 h2).1
 intro vs
 induction vs with
 | nil =>
  intro rs h _ _ _ xs hl _
  cases rs with
  | nil=>exact ⟨fun _=>none,⟨by simpa using hl,by simp,by simp⟩,by simp⟩
  | cons r rs=>exact h.elim
 | cons v vs ih =>
  intro rs h hus hnd hB xs hl hrep
  cases rs with
  | nil=>exact h.elim
  | cons r rs =>
   cases xs with
   | nil=>simp at hl
   | cons x xs =>
    obtain ⟨hr,hrest⟩:=h
    have hv:=hrep 0 v x rfl rfl
    have one:∃ l,RepR (Lent F ρ (without us H)) B w l r x ∧ ∀ L,l = some L → ∃ o ob,ownIds (v :: vs) (r :: rs) = o :: ownIds vs rs ∧ look H o = some ob ∧ ∃ L0,ρ o = some L0 ∧ L0.b = L.b:=by
     cases r with
     | i y=>exact ⟨none,.i _ _ _ (immC_rep hobj' hv hr),by simp⟩
     | agg cells =>
      have hr':v = .agg cells:=hr
      subst hr'
      cases hv with | agg _ cs hs hc=>exact ⟨none,.agg _ _ _ ⟨hs,fun j x u h1 h2=>(hc j x u h1 h2).mono (fun b hb=>.inl hb) fun _ _=>rfl⟩,by simp⟩
     | own sz els =>
      rcases ownR_spec hr with ⟨rfl,rfl⟩ | ⟨o,off,len,ob,rfl,hob,rfl,rfl⟩
      ·cases hv with | esl ad=>exact ⟨none,.ownE _ _,by simp⟩
      ·have hids:ownIds (.own o off len :: vs) (.own ob.sz ((ob.els.drop off).take len) :: rs) = o :: ownIds vs rs:=rfl
       cases hv with
       | ownE _ _ ad=>exact ⟨none,by simpa using RepR.ownE ob.sz ad,by simp⟩
       | own _ _ _ c L ho hm hlc hN =>
        obtain ⟨q1,q3⟩:=hobj o ob L hob ho
        have q2:B ≤ L.b:=hB o ob L (by rw [hids]; simp) hob ho
        have hlen:((ob.els.drop off).take len).length = len:=by have:=q1.m; simp; omega
        have hfits:L.base + off * L.sz + len * ob.sz ≤ L.N:=by
         rw [← q1.sz,Nat.add_assoc,← Nat.add_mul]
         exact Nat.le_trans (Nat.add_le_add_left (Nat.mul_le_mul_right _ (by omega)) _) hN
        obtain ⟨cs,ty,h5,h6,h7⟩:=q1.at_
        refine ⟨some ⟨L.b,L.base + off * L.sz,L.sz,L.N,len⟩, ?_,fun L' hL'=>⟨o,ob,hids,hob,L,ho,by obtain rfl:=Option.some.inj hL'; rfl⟩⟩
        have hor:ObjRep (Lent F ρ (without us H)) w ⟨ob.sz,(ob.els.drop off).take len⟩ ⟨L.b,L.base + off * L.sz,L.sz,L.N,len⟩:=by
         refine ⟨q1.sz,hlen.symm,fun el hel=>q1.len el (List.mem_of_mem_drop (List.mem_of_mem_take hel)),by simp only [hlen]; exact hfits,cs,ty,h5,h6,fun e el j y he hy=>?_⟩
         simp only at he
         rw [List.getElem?_take] at he
         split at he
         ·rw [List.getElem?_drop] at he
          obtain ⟨u,hu,hr'⟩:=h7 (off + e) el j y he hy
          rw [Nat.add_mul,← Nat.add_assoc] at hu
          exact ⟨u,hu,hr'.mono (fun b hb=>.inl hb) fun _ _=>rfl⟩
         ·simp at he
        have hnF:¬ Lent F ρ (without us H) L.b:=by
         rintro (hF | ⟨o',ob',L',g1,g2,g3⟩)
         ·exact q3 hF
         ·obtain ⟨g4,g5⟩:=look_without g1
          have:=hap o' o ob' ob L' L g4 hob g2 ho g3
          subst this
          exact g5 (hus o' (by rw [hids]; simp))
        have:=RepR.own (F:=Lent F ρ (without us H)) (B:=B) (w:=w) ob.sz ((ob.els.drop off).take len) ⟨L.b,L.base + off * L.sz,L.sz,L.N,len⟩ c hor q2 hnF (by rw [hlen]; exact hlc) (by simp only; rw [Nat.add_assoc,← Nat.add_mul]; exact hN)
        simpa [hlen] using this
     | pt sz el =>
      have hr':ptR H v sz el:=hr
      cases v <;> simp only [ptR] at hr'
      rename_i o e j
      obtain ⟨rfl,rfl,hob⟩:=hr'
      have hids:ownIds (.ptr o 0 0 :: vs) (.pt sz el :: rs) = o :: ownIds vs rs:=rfl
      cases hv with
      | ptr _ _ _ L ho =>
       obtain ⟨q1,q3⟩:=hobj o _ L hob ho
       have q2:B ≤ L.b:=hB o _ L (by rw [hids]; simp) hob ho
       have hor:ObjRep (Lent F ρ (without us H)) w ⟨sz,[el]⟩ L:=q1.mono (fun b hb=>.inl hb) (fun _ _=>rfl) rfl
       have hnF:¬ Lent F ρ (without us H) L.b:=by
        rintro (hF | ⟨o',ob',L',g1,g2,g3⟩)
        ·exact q3 hF
        ·obtain ⟨g4,g5⟩:=look_without g1
         have:=hap o' o ob' _ L' L g4 hob g2 ho g3
         subst this
         exact g5 (hus o' (by rw [hids]; simp))
       refine ⟨some L, ?_,fun L' hL'=>⟨o,_,hids,hob,L,ho,by obtain rfl:=Option.some.inj hL'; rfl⟩⟩
       have:=RepR.pt (F:=Lent F ρ (without us H)) (B:=B) (w:=w) sz el L hor q2 hnF
       simpa using this
    obtain ⟨l,hl1,hl2⟩:=one
    have hsub:∀ o ∈ ownIds vs rs,o ∈ ownIds (v :: vs) (r :: rs):=by
     intro o ho
     cases v <;> cases r <;> simp [ownIds,ho]
    have hnd':(ownIds vs rs).Nodup:=by
     cases v <;> cases r <;> first | exact hnd | exact (List.nodup_cons.1 hnd).2
    obtain ⟨ls,hls1,hls2⟩:=ih rs hrest (fun o ho=>hus o (hsub o ho)) hnd' (fun o ob L ho=>hB o ob L (hsub o ho)) xs (by simpa using hl) fun j x' v' h1 h2=>hrep (j + 1) x' v' (by simpa using h1) (by simpa using h2)
    refine ⟨fun k=>match k with
     | 0=>l
     | k + 1=>ls k,⟨by simp [hls1.len],fun k r' v' h1 h2=>?_,fun k k' L L' hk hk' h1 h2 hb=>?_⟩,fun k L hk=>?_⟩
    ·cases k with
     | zero=>obtain rfl:=Option.some.inj h1; obtain rfl:=Option.some.inj h2; exact hl1
     | succ k=>exact hls1.rep k r' v' (by simpa using h1) (by simpa using h2)
    ·have cross:∀ (L L':Loc) k,l = some L → ls k = some L' → L.b = L'.b → False:=by
      intro L L' k h1 h2 hb
      obtain ⟨o,ob,ho,hob,L0,hL0,hb0⟩:=hl2 L h1
      obtain ⟨o',ob',ho',hob',L1,hL1,hb1⟩:=hls2 k L' h2
      have:=hap o o' ob ob' L0 L1 hob hob' hL0 hL1 (by rw [hb0,hb1,hb])
      subst this
      rw [ho] at hnd
      exact (List.nodup_cons.1 hnd).1 ho'
     cases k with
     | zero=>cases k' with
      | zero=>rfl
      | succ k'=>exact (cross L L' k' h1 h2 hb).elim
     | succ k=>cases k' with
      | zero=>exact (cross L' L k h2 h1 hb.symm).elim
      | succ k'=>rw [hls1.apart k k' L L' (by simpa using hk) (by simpa using hk') h1 h2 hb]
    ·cases k with
     | zero =>
      obtain ⟨o,ob,ho,hob,L0,hL0⟩:=hl2 L hk
      exact ⟨o,ob,by rw [ho]; simp,hob,L0,hL0⟩
     | succ k =>
      obtain ⟨o,ob,ho,hob⟩:=hls2 k L hk
      exact ⟨o,ob,hsub o ho,hob⟩
theorem PC_intro {E:Env} (hE:E.Ok) {f:FuncId} {fn:Func} {c:Code} {args:List AV} {rs:List RV} (hf:E.P.funcs[f]? = some fn) (hb:fn.body = some c) (hg:goesB E.P f = true)
  (hok:codeOk E.M fn.ntmps c = true) (hn:args.length ≤ fn.ntmps) (h:X E fn.ntmps c ⟨numT 0 args,[]⟩ (retQ E fn rs)):PC E f args rs:=by
 refine ⟨hg,fun F w cargs hG hlt hsz hrep=>?_⟩
 refine calls_of_wp hf hb ?_
 have hfit:Fits ⟨w,fun _=>False,fun _=>none⟩ F fn.ntmps ⟨numT 0 args,[]⟩ { tmps:=cargs ++ Array.replicate (fn.ntmps - cargs.size) undef,defers:=[] } w:=by
  refine ⟨F,fun _=>none,⟨⟨Base.Kept.refl _,rfl,by simp; omega,fun _ h=>h,fun _ h=>.inl h,hlt,fun t v hv=>?_,⟨fun o ob L h1=>by simp [look] at h1,fun o ob h1=>by simp [look] at h1,fun o o' ob ob' L L' h1=>by simp [look] at h1⟩⟩,fun o L h=>by simp at h,fun _ _ _=>rfl⟩⟩
  obtain ⟨-,h2⟩:=look_numT args 0 t v hv
  have h3:t < cargs.size:=by rw [hsz]; exact (List.getElem?_eq_some_iff.1 h2).1
  have h4:(cargs ++ Array.replicate (fn.ntmps - cargs.size) undef).getD t undef = cargs[t]:=by
   rw [Array.getD_eq_getD_getElem?,Array.getElem?_append,if_pos h3,Array.getElem?_eq_getElem h3]; rfl
  simp only
  rw [h4]
  exact hrep t v _ h2 (Array.getElem?_eq_getElem h3)
 have hmine:∀ b,(Base.mk w (fun _=>False) fun _=>none).mine b → w.heap.size ≤ b:=fun b hb=>hb.elim id False.elim
 refine wp_mono (X_sound hE c _ _ hok h _ F _ w ⟨hG,fun b hb hm=>absurd (hlt b hb) (Nat.not_lt.2 (hmine b hm))⟩ hfit) ?_
 rintro e a w' ⟨st,hQ,F',ρ,hf'⟩
 have fin:RetX E fn rs st → a.defers = [] ∧ ∃ v,(results fn a.tmps).run E.P w' = .ok v w' ∧ ∃ vs F' ls,Ending.returned v = .returned (packV vs) ∧ Below w.heap.size w w' ∧ (∀ b,F b → F' b) ∧ (∀ b,F' b → F b ∨ w.heap.size ≤ b) ∧
   (∀ b,F' b → b < w'.heap.size) ∧ RepRs F' w.heap.size w' rs vs ls:=by
  rintro ⟨vs,h1,h2,h3⟩
  obtain ⟨us,g1,g2,g3⟩:=resV_run hE hf'.tmps (fun id ob L q1 q2=>(hf'.heap.obj id ob L q1 q2).1) h1
  refine ⟨hf'.defers,packV us, ?_, ?_⟩
  ·rw [results_eq,Array.mapM_eq_mapM_toList]
   simp only [Sem.run_bind,Sem.run_map,g1,Result.andThen_ok,Sem.run_pure]
   rw [packV_results]
  ·obtain ⟨ls,hls,-⟩:=retV_rep (B:=w.heap.size) (fun id ob L q1 q2=>⟨(hf'.heap.obj id ob L q1 q2).1,(hf'.heap.obj id ob L q1 q2).2.2⟩) hf'.heap.apart vs rs h3 (fun o ho=>ho) (nodupB_spec h2)
    (fun o ob L _ q1 q2=>hmine _ (hf'.heap.obj o ob L q1 q2).2.1) us g2 g3
   refine ⟨us,_,ls,rfl,hf'.below.to_below,fun b hb=>.inl (hf'.sub b hb),fun b hb=>?_,fun b hb=>?_,hls⟩
   ·rcases hb with hb | ⟨o,ob,L,q1,q2,rfl⟩
    ·exact (hf'.sup b hb).imp_right (hmine b)
    ·exact .inr (hmine _ (hf'.heap.obj o ob L (look_without q1).1 q2).2.1)
   ·rcases hb with hb | ⟨o,ob,L,q1,q2,rfl⟩
    ·exact hf'.lt b hb
    ·obtain ⟨cs,ty,q3,-⟩:=(hf'.heap.obj o ob L (look_without q1).1 q2).1.at_
     exact (Array.getElem?_eq_some_iff.1 q3).1
 cases e with
 | normal=>exact fin hQ
 | ret=>exact fin hQ
 | exit i=>exact hQ.elim
 | goto i=>exact hQ.elim
 | panic c=>exact hQ.elim
 | outgrown=>exact hQ.elim
def outM (H:List (Nat × Obj)):List (Nat × Obj) → Prop
 | []=>True
 | (i,ob) :: l=>look H i = some ob ∧ outM H l
theorem outM_spec {H:List (Nat × Obj)}:∀ {O:List (Nat × Obj)},outM H O → ∀ i ob,look O i = some ob → look H i = some ob
 | [],_,i,ob,h=>by simp [look] at h
 | (j,x) :: O,ho,i,ob,h=>by
  rw [look_cons] at h
  split at h
  ·rename_i e; subst e; obtain rfl:=Option.some.inj h; exact ho.1
  ·exact outM_spec ho.2 i ob h
def allM (O:List (Nat × Obj)):List (Nat × Obj) → Prop
 | []=>True
 | (i,ob) :: l=>(∃ ob',look O i = some ob' ∧ ob'.els.length = ob.els.length) ∧ allM O l
theorem allM_spec {O:List (Nat × Obj)}:∀ {H:List (Nat × Obj)},allM O H → ∀ i ob,look H i = some ob → ∃ ob',look O i = some ob' ∧ ob'.els.length = ob.els.length
 | [],_,i,ob,h=>by simp [look] at h
 | (j,x) :: O,ho,i,ob,h=>by
  rw [look_cons] at h
  split at h
  ·rename_i e; subst e; obtain rfl:=Option.some.inj h; exact ho.1
  ·exact allM_spec ho.2 i ob h
def lowB (l:List Nat):Bool:=l.all fun o=>decide (o < 700000)
def RetM (E:Env) (rl:List ResultVar) (rs:List RV) (O:List (Nat × Obj)) (st:St):Prop :=
 ∃ vs,resV E st rl = some vs ∧ nodupB (ownIds vs rs) = true ∧ lowB (ownIds vs rs) = true ∧ retV st.H (without (ownIds vs rs ++ O.map (·.1)) st.H) vs rs ∧ outM st.H O
def retME (E:Env) (rl:List ResultVar) (rs:List RV) (O:List (Nat × Obj)):Exit → St → Prop
 | .normal,st=>RetM E rl rs O st
 | .ret,st=>RetM E rl rs O st
 | _,_=>False
theorem PM_intro {E:Env} (hE:E.Ok) {f:FuncId} {fn:Func} {c:Code} {args:List MA} {outs:List Obj} {rs:List RV} (hf:E.P.funcs[f]? = some fn) (hb:fn.body = some c) (hg:goesB E.P f = true)
  (hok:codeOk E.M fn.ntmps c = true) (hn:args.length ≤ fn.ntmps) (hall:allM (maO 0 args outs) (maH 0 args))
  (h:X E fn.ntmps c ⟨numT 0 (maA 0 args),maH 0 args⟩ (retME E fn.results.toList rs (maO 0 args outs))):PM E f args outs rs:=by
 refine ⟨hg,fun i ob ob' h1 h2=>?_,fun F ρ w cargs hG hlt hsz hrep hH hdom=>?_⟩
 ·obtain ⟨ob2,h3,h4⟩:=allM_spec hall i ob h1
  obtain rfl:=Option.some.inj (h2.symm.trans h3)
  exact h4
 refine calls_of_wp hf hb ?_
 have hlen:=maA_len args 0
 have hlow:∀ i ob,look (maH 0 args) i = some ob → 700000 ≤ i:=fun i ob hi=>by
  obtain ⟨j,a,-,h2,-⟩:=maH_get hi; omega
 have hfit:Fits ⟨w,Dm ρ (maH 0 args),ρ⟩ F fn.ntmps ⟨numT 0 (maA 0 args),maH 0 args⟩ { tmps:=cargs ++ Array.replicate (fn.ntmps - cargs.size) undef,defers:=[] } w:=by
  refine ⟨F,ρ,⟨⟨Base.Kept.refl _,rfl,by simp; omega,fun _ h=>h,fun _ h=>.inl h,hlt,fun t v hv=>?_,⟨fun o ob L h1 h2=>?_,hH.sm,hH.apart⟩⟩,hdom,fun _ _ _=>rfl⟩⟩
  ·obtain ⟨-,h2⟩:=look_numT _ 0 t v hv
   have h3:t < cargs.size:=by rw [hsz,← hlen]; exact (List.getElem?_eq_some_iff.1 h2).1
   have h4:(cargs ++ Array.replicate (fn.ntmps - cargs.size) undef).getD t undef = cargs[t]:=by
    rw [Array.getD_eq_getD_getElem?,Array.getElem?_append,if_pos h3,Array.getElem?_eq_getElem h3]; rfl
   simp only
   rw [h4]
   exact hrep t v _ h2 (Array.getElem?_eq_getElem h3)
  ·obtain ⟨q1,-,q3⟩:=hH.obj o ob L h1 h2
   exact ⟨q1,.inr ⟨o,ob,L,h1,h2,rfl⟩,q3⟩
 refine wp_mono (X_sound hE c _ _ hok h _ F _ w ⟨hG,fun b hb hm=>?_⟩ hfit) ?_
 ·rcases hm with hm | ⟨o,ob,L,h1,h2,rfl⟩
  ·exact absurd (hlt b hb) (Nat.not_lt.2 hm)
  ·exact (hH.obj o ob L h1 h2).2.2 hb
 rintro e a w' ⟨st,hQ,F',ρ',hf'⟩
 have fin:RetM E fn.results.toList rs (maO 0 args outs) st → a.defers = [] ∧ ∃ v,(results fn a.tmps).run E.P w' = .ok v w' ∧ ∃ vs F' ls u,Ending.returned v = .returned u ∧ retP none F' ρ w' vs u ∧ Base.Kept ⟨w,Dm ρ (maH 0 args),ρ⟩ w' ∧ (∀ b,F b → F' b) ∧ (∀ b,F' b → F b ∨ w.heap.size ≤ b) ∧
   (∀ b,F' b → b < w'.heap.size) ∧ RepRs F' w.heap.size w' rs vs ls ∧ ∀ o ob L,look (maO 0 args outs) o = some ob → ρ o = some L → ObjRep F' w' ob L ∧ ¬ F' L.b:=by
  rintro ⟨vs,h1,h2,h2',h3,h4⟩
  obtain ⟨us,g1,g2,g3⟩:=resV_run hE hf'.tmps (fun id ob L q1 q2=>(hf'.heap.obj id ob L q1 q2).1) h1
  have hthere:∀ i ob0 L,look (maH 0 args) i = some ob0 → ρ i = some L → ∃ ob,look (maO 0 args outs) i = some ob ∧ look st.H i = some ob ∧ ρ' i = some L:=by
   intro i ob0 L q1 q2
   obtain ⟨ob,q3,-⟩:=allM_spec hall i ob0 q1
   have q4:=outM_spec h4 i ob q3
   exact ⟨ob,q3,q4,by rw [hf'.pin i (hlow i ob0 q1) (by rw [q4]; rfl)]; exact q2⟩
  have hmine:∀ o ob L,look st.H o = some ob → ρ' o = some L → o ∉ (maO 0 args outs).map (·.1) → w.heap.size ≤ L.b:=by
   intro o ob L q1 q2 q3
   rcases (hf'.heap.obj o ob L q1 q2).2.1 with hm | ⟨i,ob0,L0,p1,p2,p3⟩
   ·exact hm
   ·obtain ⟨ob1,p4,p5,p6⟩:=hthere i ob0 L0 p1 p2
    have:=hf'.heap.apart i o ob1 ob L0 L p5 q1 p6 q2 p3
    subst this
    exact absurd (List.mem_map.2 ⟨_,look_memP p4,rfl⟩) q3
  have hFmine:∀ b,F' b → F b ∨ w.heap.size ≤ b:=by
   intro b hb
   rcases hf'.sup b hb with hb' | hm | ⟨i,ob0,L0,p1,p2,p3⟩
   ·exact .inl hb'
   ·exact .inr hm
   ·obtain ⟨ob1,p4,p5,p6⟩:=hthere i ob0 L0 p1 p2
    exact absurd (p3 ▸ hb) (hf'.heap.obj i ob1 L0 p5 p6).2.2
  have hids:∀ i,i ∈ (maO 0 args outs).map (·.1) → 700000 ≤ i:=by
   intro i hi
   obtain ⟨⟨i',ob⟩,q1,rfl⟩:=List.mem_map.1 hi
   exact maO_low q1
  refine ⟨hf'.defers,packV us, ?_, ?_⟩
  ·rw [results_eq,Array.mapM_eq_mapM_toList]
   simp only [Sem.run_bind,Sem.run_map,g1,Result.andThen_ok,Sem.run_pure]
   rw [packV_results]
  ·obtain ⟨ls,hls,-⟩:=retV_rep (B:=w.heap.size) (fun id ob L q1 q2=>⟨(hf'.heap.obj id ob L q1 q2).1,(hf'.heap.obj id ob L q1 q2).2.2⟩) hf'.heap.apart vs rs h3 (fun o ho=>List.mem_append.2 (.inl ho)) (nodupB_spec h2)
    (fun o ob L ho q1 q2=>hmine o ob L q1 q2 fun hin=>by
     have:=hids o hin
     have:=List.all_eq_true.1 h2' o ho
     simp at this; omega) us g2 g3
   refine ⟨us,_,ls,_,rfl,rfl,hf'.below,fun b hb=>.inl (hf'.sub b hb),fun b hb=>?_,fun b hb=>?_,hls,fun o ob L q1 q2=>?_⟩
   ·rcases hb with hb | ⟨o,ob,L,q1,q2,rfl⟩
    ·exact hFmine b hb
    ·obtain ⟨q3,q4⟩:=look_without q1
     exact .inr (hmine o ob L q3 q2 fun hin=>q4 (List.mem_append.2 (.inr hin)))
   ·rcases hb with hb | ⟨o,ob,L,q1,q2,rfl⟩
    ·exact hf'.lt b hb
    ·obtain ⟨cs,ty,q3,-⟩:=(hf'.heap.obj o ob L (look_without q1).1 q2).1.at_
     exact (Array.getElem?_eq_some_iff.1 q3).1
   ·have q3:=outM_spec h4 o ob q1
    have q4:ρ' o = some L:=by rw [hf'.pin o (maO_low (look_memP q1)) (by rw [q3]; rfl)]; exact q2
    obtain ⟨p1,p2,p3⟩:=hf'.heap.obj o ob L q3 q4
    refine ⟨p1.mono (fun b hb=>.inl hb) (fun _ _=>rfl) rfl, ?_⟩
    rintro (hF | ⟨o',ob',L',r1,r2,r3⟩)
    ·exact p3 hF
    ·obtain ⟨r4,r5⟩:=look_without r1
     have:=hf'.heap.apart o' o ob' ob L' L r4 q3 r2 q4 r3
     subst this
     exact r5 (List.mem_append.2 (.inr (List.mem_map.2 ⟨_,look_memP q1,rfl⟩)))
 cases e with
 | normal=>exact fin hQ
 | ret=>exact fin hQ
 | exit i=>exact hQ.elim
 | goto i=>exact hQ.elim
 | panic c=>exact hQ.elim
 | outgrown=>exact hQ.elim
def RetPt (E:Env) (rl:List ResultVar) (j off len:Nat) (O:List (Nat × Obj)) (st:St):Prop :=
 resV E st rl = some [.own (700000 + j) off len] ∧ outM st.H O
def retPE (E:Env) (rl:List ResultVar) (j off len:Nat) (O:List (Nat × Obj)):Exit → St → Prop
 | .normal,st=>RetPt E rl j off len O st
 | .ret,st=>RetPt E rl j off len O st
 | _,_=>False
theorem PP_intro {E:Env} (hE:E.Ok) {f:FuncId} {fn:Func} {c:Code} {args:List MA} {outs:List Obj} {j off len:Nat} (hf:E.P.funcs[f]? = some fn) (hb:fn.body = some c) (hg:goesB E.P f = true)
  (hok:codeOk E.M fn.ntmps c = true) (hn:args.length ≤ fn.ntmps) (hall:allM (maO 0 args outs) (maH 0 args))
  (h:X E fn.ntmps c ⟨numT 0 (maA 0 args),maH 0 args⟩ (retPE E fn.results.toList j off len (maO 0 args outs))):PM E f args outs [] (some (j,off,len)):=by
 refine ⟨hg,fun i ob ob' h1 h2=>?_,fun F ρ w cargs hG hlt hsz hrep hH hdom=>?_⟩
 ·obtain ⟨ob2,h3,h4⟩:=allM_spec hall i ob h1
  obtain rfl:=Option.some.inj (h2.symm.trans h3)
  exact h4
 refine calls_of_wp hf hb ?_
 have hlen:=maA_len args 0
 have hlow:∀ i ob,look (maH 0 args) i = some ob → 700000 ≤ i:=fun i ob hi=>by
  obtain ⟨j,a,-,h2,-⟩:=maH_get hi; omega
 have hfit:Fits ⟨w,Dm ρ (maH 0 args),ρ⟩ F fn.ntmps ⟨numT 0 (maA 0 args),maH 0 args⟩ { tmps:=cargs ++ Array.replicate (fn.ntmps - cargs.size) undef,defers:=[] } w:=by
  refine ⟨F,ρ,⟨⟨Base.Kept.refl _,rfl,by simp; omega,fun _ h=>h,fun _ h=>.inl h,hlt,fun t v hv=>?_,⟨fun o ob L h1 h2=>?_,hH.sm,hH.apart⟩⟩,hdom,fun _ _ _=>rfl⟩⟩
  ·obtain ⟨-,h2⟩:=look_numT _ 0 t v hv
   have h3:t < cargs.size:=by rw [hsz,← hlen]; exact (List.getElem?_eq_some_iff.1 h2).1
   have h4:(cargs ++ Array.replicate (fn.ntmps - cargs.size) undef).getD t undef = cargs[t]:=by
    rw [Array.getD_eq_getD_getElem?,Array.getElem?_append,if_pos h3,Array.getElem?_eq_getElem h3]; rfl
   simp only
   rw [h4]
   exact hrep t v _ h2 (Array.getElem?_eq_getElem h3)
  ·obtain ⟨q1,-,q3⟩:=hH.obj o ob L h1 h2
   exact ⟨q1,.inr ⟨o,ob,L,h1,h2,rfl⟩,q3⟩
 refine wp_mono (X_sound hE c _ _ hok h _ F _ w ⟨hG,fun b hb hm=>?_⟩ hfit) ?_
 ·rcases hm with hm | ⟨o,ob,L,h1,h2,rfl⟩
  ·exact absurd (hlt b hb) (Nat.not_lt.2 hm)
  ·exact (hH.obj o ob L h1 h2).2.2 hb
 rintro e a w' ⟨st,hQ,F',ρ',hf'⟩
 have fin:RetPt E fn.results.toList j off len (maO 0 args outs) st → a.defers = [] ∧ ∃ v,(results fn a.tmps).run E.P w' = .ok v w' ∧ ∃ vs F' ls u,Ending.returned v = .returned u ∧ retP (some (j,off,len)) F' ρ w' vs u ∧ Base.Kept ⟨w,Dm ρ (maH 0 args),ρ⟩ w' ∧ (∀ b,F b → F' b) ∧ (∀ b,F' b → F b ∨ w.heap.size ≤ b) ∧
   (∀ b,F' b → b < w'.heap.size) ∧ RepRs F' w.heap.size w' [] vs ls ∧ ∀ o ob L,look (maO 0 args outs) o = some ob → ρ o = some L → ObjRep F' w' ob L ∧ ¬ F' L.b:=by
  rintro ⟨h1,h4⟩
  obtain ⟨us,g1,g2,g3⟩:=resV_run hE hf'.tmps (fun id ob L q1 q2=>(hf'.heap.obj id ob L q1 q2).1) h1
  obtain ⟨u,rfl⟩:∃ u,us = [u]:=by
   cases us with
   | nil=>simp at g2
   | cons u us=>cases us with
    | nil=>exact ⟨u,rfl⟩
    | cons=>simp at g2
  have hthere:∀ i ob0 L,look (maH 0 args) i = some ob0 → ρ i = some L → ∃ ob,look (maO 0 args outs) i = some ob ∧ look st.H i = some ob ∧ ρ' i = some L:=by
   intro i ob0 L q1 q2
   obtain ⟨ob,q3,-⟩:=allM_spec hall i ob0 q1
   have q4:=outM_spec h4 i ob q3
   exact ⟨ob,q3,q4,by rw [hf'.pin i (hlow i ob0 q1) (by rw [q4]; rfl)]; exact q2⟩
  refine ⟨hf'.defers,u, ?_,[],F',fun _=>none,u,rfl, ?_,hf'.below,hf'.sub,fun b hb=>?_,hf'.lt,⟨rfl,by simp,fun k k' L L' hk=>by simp at hk⟩,fun o ob L q1 q2=>?_⟩
  ·rw [results_eq,Array.mapM_eq_mapM_toList]
   simp only [Sem.run_bind,Sem.run_map,g1,Result.andThen_ok,Sem.run_pure]
   rfl
  ·have hr:=g3 0 _ u rfl rfl
   show RepA F' ρ w' (.own (700000 + j) off len) u
   cases hr with
   | own _ _ _ c L ho hm hlc hN =>
    have q4:ρ' (700000 + j) = ρ (700000 + j):=hf'.pin _ (by omega) (hf'.dom _ L ho)
    exact .own _ _ _ c L (by rw [← ho,q4]) hm hlc hN
   | ownE _ _ ad=>exact .ownE _ _ _
  ·rcases hf'.sup b hb with hb' | hm | ⟨i,ob0,L0,p1,p2,p3⟩
   ·exact .inl hb'
   ·exact .inr hm
   ·obtain ⟨ob1,p4,p5,p6⟩:=hthere i ob0 L0 p1 p2
    exact absurd (p3 ▸ hb) (hf'.heap.obj i ob1 L0 p5 p6).2.2
  ·have q3:=outM_spec h4 o ob q1
   have q4:ρ' o = some L:=by rw [hf'.pin o (maO_low (look_memP q1)) (by rw [q3]; rfl)]; exact q2
   obtain ⟨p1,p2,p3⟩:=hf'.heap.obj o ob L q3 q4
   exact ⟨p1,p3⟩
 cases e with
 | normal=>exact fin hQ
 | ret=>exact fin hQ
 | exit i=>exact hQ.elim
 | goto i=>exact hQ.elim
 | panic c=>exact hQ.elim
 | outgrown=>exact hQ.elim
end Go.Vai
