/- Texts of this claim: Zv7. -/
import Derived.Test.YtiipeibaiphmpaaGreatDoorTv6
set_option linter.unusedVariables false
set_option linter.unusedSimpArgs false
namespace Go.Vai
structure Post (F:Nat → Prop) (ρ:Locs) (w:World) (v:AV) (frs:List (Nat × Obj)) (F':Nat → Prop) (ρ':Locs) (w':World) (cv:Value):Prop where
 below:Below w.heap.size w w'
 sub:∀ b,F b → F' b
 sup:∀ b,F' b → F b ∨ w.heap.size ≤ b
 lt:∀ b,F' b → b < w'.heap.size
 rep:RepA F' ρ' w' v cv
 old:∀ o,look frs o = none → ρ' o = ρ o
 obj:∀ o ob L,look frs o = some ob → ρ' o = some L → ObjRep F' w' ob L ∧ w.heap.size ≤ L.b ∧ ¬ F' L.b
 sm:∀ o ob,look frs o = some ob → ob.els ≠ [] → (ρ' o).isSome = true
 apart:∀ o o' ob ob' L L',look frs o = some ob → look frs o' = some ob' → ρ' o = some L → ρ' o' = some L' → L.b = L'.b → o = o'
def QOK (E:Env) (T:List (Nat × AV)) (H:List (Nat × Obj)) (o:Oper) (v:AV) (frs:List (Nat × Obj)):Prop :=
 ∀ F ρ a w,Pre E F ρ T H o a w → ∀ K Q,(∀ cv w' F' ρ',Post F ρ w v frs F' ρ' w' cv → K (a.put o.dst cv) w') → o.wp E.P a w K Q
theorem QOK.pure {E:Env} (hE:E.Ok) {T:List (Nat × AV)} {H:List (Nat × Obj)} {o:Oper} {v:AV} (h:qpure E T H o.op = some v):QOK E T H o v []:=by
 intro F ρ a w hp K Q hK
 obtain ⟨cv,h1,h2⟩:=qpure_run hE hp h
 unfold Oper.wp
 rw [h2]
 exact hK cv w F ρ ⟨Below.refl _ _,fun _ h=>h,fun _ h=>.inl h,hp.lt,h1,fun _ _=>rfl,fun _ _ _ h=>by simp [look] at h,fun _ _ h=>by simp [look] at h,fun _ _ _ _ _ _ h=>by simp [look] at h⟩
def partsA (E:Env) (T:List (Nat × AV)) (n:Nat):Nat → List (Nat × Operand) → Option (List (List IV))
 | _,[]=>some []
 | k,(f,x) :: ps=>if f = k then match evA E T x with
   | some v=>match cellsOf v with
    | some c=>if c.length = n then (partsA E T n (k + 1) ps).map (c :: ·) else none
    | none=>none
   | none=>none
  else none
def most:Int:=140737488355328
def zerosA (E:Env) (T:List (Nat × AV)) (d:Nat):List TypeId → List Operand → Option (AV × Obj)
 | [t,tn],[s,x]=>if t = tn then none else match evA E T s,evA E T x with
  | some .esl,some (.i (.int _ n))=>match tkOf E t,tkOf E tn with
   | some (.slice e),some (.int _)=>match E.τ e with
    | some i=>if 0 < n ∧ n ≤ most ∧ i.bytes * n ≤ most ∧ i.zero ≠ [] ∧ i.zero.length = i.size then some (.own d 0 n.toNat,⟨i.size,List.replicate n.toNat i.zero⟩) else none
    | none=>none
   | _,_=>none
  | _,_=>none
 | _,_=>none
def qfresh (E:Env) (T:List (Nat × AV)) (d:Nat):Op → Option (AV × Obj)
 | .alloc t=>match E.τ t with
  | some i=>if i.zero ≠ [] ∧ i.zero.length = i.size then some (.ptr d 0 0,⟨i.size,[i.zero]⟩) else none
  | none=>none
 | .box t x=>match evA E T x with
  | some v=>match cellsOf v with
   | some c=>some (.ptr d 0 0,⟨c.length,[c]⟩)
   | none=>none
  | none=>none
 | .makeSlice t l c=>match evA E T l,evA E T c with
  | some (.i (.int _ n)),some (.i (.int _ m))=>match tkOf E t with
   | some (.slice e)=>match E.τ e with
    | some i=>if n = m ∧ 0 ≤ n ∧ n ≤ most ∧ i.bytes * n ≤ most ∧ i.zero ≠ [] ∧ i.zero.length = i.size then some (.own d 0 n.toNat,⟨i.size,List.replicate n.toNat i.zero⟩) else none
    | none=>none
   | _=>none
  | _,_=>none
 | .buildSlice t len ps=>match tkOf E t with
  | some (.slice e)=>match E.τ e with
   | some i=>if len * i.size ≤ 2 ^ 24 ∧ i.zero ≠ [] ∧ i.zero.length = i.size then match partsA E T i.size 0 ps.toList with
     | some els=>if els.length = len then (if len = 0 then some (.esl,⟨i.size,[]⟩) else some (.own d 0 len,⟨i.size,els⟩)) else none
     | none=>none
    else none
   | none=>none
  | _=>none
 | .call { callee:=.builtin .append,args:=xs,argTypes:=ts }=>zerosA E T d ts.toList xs.toList
 | _=>none
def upd (ρ:Locs) (d:Nat) (L:Loc):Locs:=fun o=>if o = d then some L else ρ o
theorem upd_same (ρ:Locs) (d:Nat) (L:Loc):upd ρ d L d = some L:=by simp [upd]
theorem heap_push (w:World) (o:Go.Obj) (b:Nat) (h:b < w.heap.size):({ w with heap:=w.heap.push o }:World).heap[b]? = w.heap[b]?:=by
 simp [Array.getElem?_push,Nat.ne_of_lt h]
theorem below_push (w:World) (o:Go.Obj):Below w.heap.size w { w with heap:=w.heap.push o } :=
 ⟨rfl,rfl,rfl,by simp,fun k hk=>heap_push w o k hk,Nat.le_refl _⟩
theorem Post.fresh {F:Nat → Prop} {ρ:Locs} {w w1:World} {els:List (List IV)} {sz d:Nat} {cs:Array Value} {ty:TypeId} {v:AV} {cv:Value}
  (h1:w1.heap = w.heap) (hb1:Below w.heap.size w w1)
  (hlt:∀ b,F b → b < w.heap.size) (hl:∀ el ∈ els,el.length = sz) (hn:els.length * sz ≤ cs.size)
  (hc:∀ (e:Nat) (el:List IV) (j:Nat) (x:IV),els[e]? = some el → el[j]? = some x → ∃ u,cs[e * sz + j]? = some u ∧ Rep F w x u)
  (hr:∀ ρ',ρ' d = some ⟨w.heap.size,0,sz,cs.size,els.length⟩ → RepA F ρ' { w1 with heap:=w1.heap.push (.cells cs ty (0,0)) } v cv) :
  Post F ρ w v [(d,⟨sz,els⟩)] F (upd ρ d ⟨w.heap.size,0,sz,cs.size,els.length⟩) { w1 with heap:=w1.heap.push (.cells cs ty (0,0)) } cv:=by
 have hold:∀ b,F b → ({ w1 with heap:=w1.heap.push (.cells cs ty (0,0)) }:World).heap[b]? = w.heap[b]?:=by
  intro b hb; rw [heap_push w1 _ b (by rw [h1]; exact hlt b hb),h1]
 refine ⟨?_,fun _ h=>h,fun _ h=>.inl h,fun b hb=>?_,hr _ (upd_same _ _ _),fun o ho=>?_,fun o ob L ho hL=>?_,fun o ob ho _=>?_,fun o o' ob ob' L L' ho ho' _ _ _=>?_⟩
 ·refine hb1.trans ?_
  have:=below_push w1 (.cells cs ty (0,0))
  rwa [h1] at this ⊢
 ·have:=hlt b hb; simp [h1]; omega
 ·simp only [look_cons,look_nil] at ho
  split at ho
  ·simp at ho
  ·rename_i h; simp [upd]; intro e; exact absurd e.symm h
 ·simp only [look_cons,look_nil] at ho
  split at ho
  ·rename_i h
   subst h
   obtain rfl:=Option.some.inj ho
   rw [upd_same] at hL
   obtain rfl:=Option.some.inj hL
   refine ⟨⟨rfl,rfl,hl,by simpa using hn,cs,ty, ?_,rfl,fun e el j x he hx=>?_⟩,Nat.le_refl _,fun hF=>absurd (hlt _ hF) (Nat.lt_irrefl _)⟩
   ·show (w1.heap.push (.cells cs ty (0,0)))[w.heap.size]? = _
    rw [← h1]; simp
   ·obtain ⟨u,hu,hrep⟩:=hc e el j x he hx
    exact ⟨u,by simpa using hu,hrep.mono (fun _ h=>h) hold⟩
  ·simp at ho
 ·simp only [look_cons,look_nil] at ho
  split at ho
  ·rename_i h; subst h; rw [upd_same]; rfl
  ·simp at ho
 ·simp only [look_cons,look_nil] at ho ho'
  split at ho <;> split at ho' <;> simp_all
theorem wrap_i64 {n:Int} (h0:-9223372036854775808 ≤ n) (h:n ≤ 9223372036854775807):IntKind.i64.wrap n = n:=by
 show (if (true && decide (n % 18446744073709551616 ≥ 9223372036854775808)) = true then n % 18446744073709551616 - 18446744073709551616 else n % 18446744073709551616) = n
 simp only [Bool.true_and,decide_eq_true_eq]
 split <;> omega
theorem parts_fill {E:Env} {F:Nat → Prop} {ρ:Locs} {T:List (Nat × AV)} {H:List (Nat × Obj)} {o:Oper} {a:Act} {w:World} (hp:Pre E F ρ T H o a w) (n:Nat) :
  ∀ (ps:List (Nat × Operand)) (k:Nat) (cs:Array Value) (els:List (List IV)),(∀ p ∈ ps,p.2 ∈ o.op.operands) → partsA E T n k ps = some els → (k + els.length) * n ≤ cs.size →
   ∃ ds,Instr.fill (fun i=>some (i * n,n)) cs (ps.map fun p=>(p.1,a.eval p.2)) = some ds ∧ ds.size = cs.size ∧ (∀ p,p < k * n → ds[p]? = cs[p]?) ∧ (∀ el ∈ els,el.length = n) ∧
    ∀ (e:Nat) (el:List IV) (j:Nat) (x:IV),els[e]? = some el → el[j]? = some x → ∃ u,ds[(k + e) * n + j]? = some u ∧ Rep F w x u
 | [],k,cs,els,_,h,_=>by
  obtain rfl:=Option.some.inj h
  exact ⟨cs,rfl,rfl,fun _ _=>rfl,by simp,by simp⟩
 | (f,x) :: ps,k,cs,els,hm,h,hN=>by
  simp only [partsA] at h
  split at h
  ·rename_i hfk
   subst hfk
   split at h
   ·rename_i v hv
    split at h
    ·rename_i c hc
     split at h
     ·rename_i hcn
      obtain ⟨els',hels,rfl⟩:=Option.map_eq_some_iff.1 h
      have hx:=hp.ev (hm (f,x) (by simp)) hv
      obtain ⟨h1,h2⟩:=cellsOf_rep hx hc
      have h1':(a.eval x).cells.size = n:=h1.trans hcn
      have e1:(a.eval x).cells.zipIdx.foldl (fun cs (c,j)=>cs.setIfInBounds (f * n + j) c) cs = ((a.eval x).cells.toList.zipIdx 0).foldl (fun cs (c,j)=>cs.setIfInBounds (f * n + j) c) cs:=by
       rw [← Array.foldl_toList]; congr 1; simp
      have hlen:(c :: els').length = els'.length + 1:=rfl
      rw [hlen] at hN
      have hN1:f * n + n ≤ cs.size:=by
       have:f * n + n ≤ (f + (els'.length + 1)) * n:=by
        have:=Nat.mul_le_mul_right n (show f + 1 ≤ f + (els'.length + 1) by omega)
        rwa [Nat.add_mul,Nat.one_mul] at this
       omega
      have hfit:f * n + 0 + (a.eval x).cells.toList.length ≤ cs.size:=by simp [h1']; exact hN1
      obtain ⟨ds,hd,hs,hlow,hl,hrep⟩:=parts_fill hp n ps (f + 1) ((a.eval x).cells.zipIdx.foldl (fun cs (c,j)=>cs.setIfInBounds (f * n + j) c) cs) els' (fun p hp=>hm p (by simp [hp])) hels (by
       rw [e1,foldl_set_size]; rwa [show f + 1 + els'.length = f + (els'.length + 1) by omega])
      refine ⟨ds, ?_, ?_,fun p hpk=>?_, ?_, ?_⟩
      ·simp only [List.map_cons,Instr.fill]
       rw [if_neg]
       ·exact hd
       ·simp only [Bool.or_eq_true,decide_eq_true_eq,not_or]
        omega
      ·rw [hs,e1,foldl_set_size]
      ·rw [hlow p (by rw [Nat.add_mul]; omega),e1,foldl_set_get _ _ _ _ _ hfit,if_neg (by omega)]
      ·intro el he
       rcases List.mem_cons.1 he with rfl | he
       ·exact hcn
       ·exact hl el he
      ·intro e el j y he hy
       cases e with
       | zero =>
        simp only [List.getElem?_cons_zero,Option.some.injEq] at he
        subst he
        have hj:j < n:=by rw [← hcn]; exact (List.getElem?_eq_some_iff.1 hy).1
        have hju:j < (a.eval x).cells.size:=by omega
        refine ⟨(a.eval x).cells[j], ?_,h2 j y _ hy (Array.getElem?_eq_getElem hju)⟩
        rw [hlow (( f + 0) * n + j) (by rw [Nat.add_mul,Nat.add_mul]; omega),e1,foldl_set_get _ _ _ _ _ hfit,if_pos (by simp [h1']; exact hj)]
        simp [hju]
       | succ e =>
        simp only [List.getElem?_cons_succ] at he
        obtain ⟨u,hu,hr⟩:=hrep e el j y he hy
        exact ⟨u,by rwa [show f + (e + 1) = f + 1 + e by omega],hr⟩
     ·simp at h
    ·simp at h
   ·simp at h
  ·simp at h
end Go.Vai
