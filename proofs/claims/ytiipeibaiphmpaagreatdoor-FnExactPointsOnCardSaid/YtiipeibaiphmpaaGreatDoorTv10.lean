/- Texts of this claim: Zv10. -/
import Derived.Test.YtiipeibaiphmpaaGreatDoorTv9
import Derived.Laws.CopyRow
import Derived.Laws.AppendOwn
set_option linter.unusedVariables false
set_option linter.unusedSimpArgs false
namespace Go.Vai
structure Ctx (E:Env) (w0:Base) (F0:Nat → Prop):Prop where
 glob:GRep E F0 w0.w
 lt:∀ b,F0 b → ¬ w0.mine b
structure Fit (w0:Base) (F0:Nat → Prop) (n:Nat) (st:St) (a:Act) (w:World) (F:Nat → Prop) (ρ:Locs):Prop extends SimAt w0 F0 n st a w F ρ where
 dom:∀ o L,ρ o = some L → (look st.H o).isSome = true
 pin:∀ o,700000 ≤ o → (look st.H o).isSome = true → ρ o = w0.at_ o
def Fits (w0:Base) (F0:Nat → Prop) (n:Nat) (st:St) (a:Act) (w:World):Prop:=∃ F ρ,Fit w0 F0 n st a w F ρ
theorem Fit.pre {E:Env} {w0:Base} {F0:Nat → Prop} {n:Nat} {st:St} {a:Act} {w:World} {F:Nat → Prop} {ρ:Locs} (hx:Ctx E w0 F0) (h:Fit w0 F0 n st a w F ρ) (o:Oper):Pre E F ρ st.T st.H o a w :=
 ⟨hx.glob.mono h.sub fun b hb=>h.below.block b (hx.lt b hb),h.lt,fun t v _ hv=>h.tmps t v hv,fun id ob L hob hL=>(h.heap.obj id ob L hob hL).1⟩
def setH (o:Nat) (ob:Obj):List (Nat × Obj) → List (Nat × Obj)
 | []=>[]
 | (i,x) :: l=>if i = o then (i,ob) :: l else (i,x) :: setH o ob l
theorem look_setH (o:Nat) (ob:Obj):∀ (l:List (Nat × Obj)) (t:Nat),(look l o).isSome = true → look (setH o ob l) t = if o = t then some ob else look l t
 | [],t,h=>by simp [look] at h
 | (i,x) :: l,t,h=>by
  simp only [setH]
  by_cases hi:i = o
  ·subst hi
   rw [if_pos rfl,look_cons,look_cons]
   split <;> rfl
  ·rw [if_neg hi]
   rw [look_cons,if_neg hi] at h
   rw [look_cons,look_cons,look_setH o ob l t h]
   by_cases ht:i = t
   ·subst ht; rw [if_pos rfl,if_neg (fun e=>hi e.symm),if_pos rfl]
   ·rw [if_neg ht,if_neg ht]
theorem Rep.oneCell {F:Nat → Prop} {w:World} {x:IV} {v:Value} (h:Rep F w x v):v.oneCell' = true:=by
 cases h <;> first | rfl | assumption
theorem heap_setRow (w:World) (g:Nat) (cs cur:Array Value) (ty:TypeId) (h:w.heap[g]? = some (.cells cur ty (0,0))):(w.setRow g cs).heap[g]? = some (.cells cs ty (0,0)):=by
 simp only [World.setRow,Array.getElem?_modify,if_pos,h,Option.map_some]
theorem heap_setRow_ne (w:World) (g:Nat) (cs:Array Value) (b:Nat) (h:b ≠ g):(w.setRow g cs).heap[b]? = w.heap[b]?:=by
 simp only [World.setRow,Array.getElem?_modify]
 rw [if_neg (fun e=>h e.symm)]
theorem size_setRow (w:World) (g:Nat) (cs:Array Value):(w.setRow g cs).heap.size = w.heap.size:=by simp [World.setRow]
theorem below_setRow {z:Base} {w:World} (h:z.Kept w) {g:Nat} (hg:z.mine g) (cs:Array Value):z.Kept (w.setRow g cs) :=
 ⟨h.os,h.tape,h.output,by rw [size_setRow]; exact h.size,fun k hk=>by rw [heap_setRow_ne w g cs k (fun e=>hk (e ▸ hg))]; exact h.block k hk,h.drawn⟩
def storeA (E:Env) (st:St) (t:TypeId) (va vv:AV):Option St :=
 match va with
 | .ptr o e j=>match look st.H o with
  | some ob=>match cellsOf vv with
   | some cs=>match E.τ t with
    | some i=>match ob.els[e]? with
     | some el=>if cs.length = i.size ∧ j + cs.length ≤ el.length then some ⟨st.T,setH o ⟨ob.sz,ob.els.set e (splice el j cs)⟩ st.H⟩ else none
     | none=>none
    | none=>none
   | none=>none
  | none=>none
 | _=>none
theorem splice_length (l:List IV) (off:Nat) (c:List IV) (h:off + c.length ≤ l.length):(splice l off c).length = l.length:=by
 unfold splice; simp; omega
theorem row_get (cur:Array Value) (a:Nat) (vs:List Value) (h:a + vs.length ≤ cur.size) (p:Nat) :
  (cur.toList.take a ++ vs ++ cur.toList.drop (a + vs.length)).toArray[p]? = if a ≤ p ∧ p < a + vs.length then vs[p - a]? else cur[p]?:=by
 simp only [List.getElem?_toArray]
 have h1:(cur.toList.take a).length = a:=by simp; omega
 rw [List.append_assoc,List.getElem?_append,h1]
 by_cases hp:p < a
 ·rw [if_pos hp,if_neg (by omega),List.getElem?_take,if_pos hp]; simp
 ·rw [if_neg hp,List.getElem?_append]
  by_cases hq:p - a < vs.length
  ·rw [if_pos hq,if_pos (by omega)]
  ·rw [if_neg hq,if_neg (by omega),List.getElem?_drop]
   simp only [Array.getElem?_toList]
   congr 1; omega
theorem storeA_wp {E:Env} (hE:E.Ok) {w0:Base} {F0:Nat → Prop} {n:Nat} {st st':St} {a:Act} {w:World} {F:Nat → Prop} {ρ:Locs} (hx:Ctx E w0 F0) (h:Fit w0 F0 n st a w F ρ)
  {o:Oper} {t:TypeId} {x y:Operand} (hop:o.op = .store t x y) (hd:o.dst = none) {va vv:AV} (hva:evA E st.T x = some va) (hvv:evA E st.T y = some vv)
  (hs:storeA E st t va vv = some st') (Q:Exit → Act → World → Prop):o.wp E.P a w (Fits w0 F0 n st') Q:=by
 have hp:=h.pre hx o
 have ha:=hp.ev (x:=x) (by rw [hop]; simp [Op.operands]) hva
 have hv:=hp.ev (x:=y) (by rw [hop]; simp [Op.operands]) hvv
 unfold storeA at hs
 split at hs <;> (try (simp at hs; done))
 rename_i id e j
 split at hs <;> (try (simp at hs; done))
 rename_i ob hob
 split at hs <;> (try (simp at hs; done))
 rename_i cs hcs
 split at hs <;> (try (simp at hs; done))
 rename_i i hi
 split at hs <;> (try (simp at hs; done))
 rename_i el hel
 split at hs <;> (try (simp at hs; done))
 rename_i hcond
 obtain rfl:=Option.some.inj hs
 generalize hae:a.eval x = av at ha
 cases ha with | ptr _ _ _ L ho =>
 obtain ⟨hsz1,hrep⟩:=cellsOf_rep hv hcs
 obtain ⟨hor,hB,hnF⟩:=h.heap.obj id ob L hob ho
 obtain ⟨k1,k2,k3,k4,cur,ty,k5,k6,k7⟩:=hor
 have helen:el.length = ob.sz:=k3 el (List.mem_of_getElem? hel)
 have hes:e < ob.els.length:=(List.getElem?_eq_some_iff.1 hel).1
 have hfit:L.base + e * L.sz + j + (a.eval y).cells.toList.length ≤ cur.size:=by
  have:=Nat.mul_le_mul_right ob.sz (show e + 1 ≤ ob.els.length by omega)
  rw [Nat.add_mul,Nat.one_mul] at this
  rw [k6,k1]; simp; omega
 have hone:∀ u ∈ (a.eval y).cells.toList,u.oneCell' = true:=by
  intro u hu
  obtain ⟨q,hq⟩:=List.mem_iff_getElem?.1 hu
  have hq':(a.eval y).cells[q]? = some u:=by simpa using hq
  have hql:q < cs.length:=by rw [← hsz1]; exact (Array.getElem?_eq_some_iff.1 hq').1
  exact (hrep q cs[q] u (List.getElem?_eq_getElem hql) hq').oneCell
 have hst:=run_storeCells_at E.P L.b (L.base + e * L.sz + j) ty (a.eval y).cells.toList 0 cur w k5 (by simpa using hfit) hone
 simp only [Nat.add_zero] at hst
 generalize hnew:(cur.toList.take (L.base + e * L.sz + j) ++ (a.eval y).cells.toList ++ cur.toList.drop (L.base + e * L.sz + j + (a.eval y).cells.toList.length)).toArray = new at hst
 have hrun:(execOp a.eval o).run E.P w = .ok .skip (w.setRow L.b new):=by
  unfold execOp; rw [hop]; dsimp only
  rw [hae]
  have hsize:(a.eval y).cells.size = i.size:=by omega
  simp [Instr.storeAt,Instr.sureAddr,storeVar,size_run hE hi,hsize,hst]
 unfold Oper.wp
 rw [hrun]
 show Fits w0 F0 n _ (a.put o.dst undef) _
 rw [hd]
 have hFne:∀ b,F b → b ≠ L.b:=fun b hb e=>hnF (e ▸ hb)
 have hFw:∀ b,F b → (w.setRow L.b new).heap[b]? = w.heap[b]?:=fun b hb=>heap_setRow_ne w L.b new b (hFne b hb)
 have hnsz:new.size = cur.size:=by
  rw [← hnew]; simp; simp at hfit; omega
 refine ⟨F,ρ,⟨⟨below_setRow h.below hB new,h.defers,h.size,h.sub,h.sup,fun b hb=>by rw [size_setRow]; exact h.lt b hb,fun t v hv=>(h.tmps t v hv).mono (fun _ h=>h) hFw fun _ _ h=>h, ?_⟩, ?_, ?_⟩⟩
 ·have hlk:=fun t=>look_setH id ⟨ob.sz,ob.els.set e (splice el j cs)⟩ st.H t (by rw [hob]; rfl)
  refine ⟨fun o' ob' L' hob' hL'=>?_,fun o' ob' hob' hne=>?_,fun o1 o2 ob1 ob2 L1 L2 h1 h2 g1 g2 hbb=>?_⟩
  ·simp only at hob'
   rw [hlk] at hob'
   by_cases heq:id = o'
   ·subst heq
    rw [if_pos rfl] at hob'
    obtain rfl:=Option.some.inj hob'
    obtain rfl:L = L':=Option.some.inj (ho.symm.trans hL')
    refine ⟨⟨k1,by simp [k2],fun x hx=>?_,by simpa using k4,new,ty,heap_setRow w L.b new cur ty k5,hnsz.trans k6,fun e' el' q x he' hx=>?_⟩,hB,hnF⟩
    ·rcases List.mem_or_eq_of_mem_set hx with hx | rfl
     ·exact k3 x hx
     ·rw [splice_length _ _ _ hcond.2]; exact helen
    ·simp only at he'
     rw [List.getElem?_set] at he'
     have hget:=row_get cur (L.base + e * L.sz + j) (a.eval y).cells.toList hfit
     by_cases hee:e = e'
     ·subst hee
      rw [if_pos rfl,if_pos hes] at he'
      obtain rfl:=Option.some.inj he'
      rw [splice_get _ _ _ hcond.2] at hx
      by_cases hq:j ≤ q ∧ q < j + cs.length
      ·rw [if_pos hq] at hx
       have hqs:q - j < (a.eval y).cells.size:=by omega
       refine ⟨(a.eval y).cells[q - j], ?_,(hrep (q - j) x _ hx (Array.getElem?_eq_getElem hqs)).mono (fun _ h=>h) hFw⟩
       rw [← hnew,hget,if_pos (by simp; omega),show L.base + e * L.sz + q - (L.base + e * L.sz + j) = q - j by omega]
       simp [hqs]
      ·rw [if_neg hq] at hx
       obtain ⟨u,hu,hr⟩:=k7 e el q x hel hx
       refine ⟨u, ?_,hr.mono (fun _ h=>h) hFw⟩
       rw [← hnew,hget,if_neg (by simp; omega)]
       exact hu
     ·rw [if_neg hee] at he'
      obtain ⟨u,hu,hr⟩:=k7 e' el' q x he' hx
      refine ⟨u, ?_,hr.mono (fun _ h=>h) hFw⟩
      have hql:q < el'.length:=(List.getElem?_eq_some_iff.1 hx).1
      have hel':=k3 el' (List.mem_of_getElem? he')
      rw [← hnew,hget,if_neg ?_]
      ·exact hu
      ·simp only [Array.length_toList]
       rw [k1]
       rcases Nat.lt_or_gt_of_ne hee with hlt | hlt
       ·have:=Nat.mul_le_mul_right ob.sz (show e + 1 ≤ e' by omega)
        rw [Nat.add_mul,Nat.one_mul] at this
        omega
       ·have:=Nat.mul_le_mul_right ob.sz (show e' + 1 ≤ e by omega)
        rw [Nat.add_mul,Nat.one_mul] at this
        omega
   ·rw [if_neg heq] at hob'
    obtain ⟨g1,g2,g3⟩:=h.heap.obj o' ob' L' hob' hL'
    have hne:L'.b ≠ L.b:=fun e=>heq (h.heap.apart id o' ob ob' L L' hob hob' ho hL' e.symm)
    exact ⟨g1.mono (fun _ h=>h) hFw (heap_setRow_ne w L.b new _ hne),g2,g3⟩
  ·simp only at hob'
   rw [hlk] at hob'
   by_cases heq:id = o'
   ·subst heq; rw [ho]; rfl
   ·rw [if_neg heq] at hob'; exact h.heap.sm o' ob' hob' hne
  ·simp only at h1 h2
   rw [hlk] at h1 h2
   have e1:∃ x,look st.H o1 = some x:=by
    by_cases heq:id = o1
    ·subst heq; exact ⟨_,hob⟩
    ·rw [if_neg heq] at h1; exact ⟨_,h1⟩
   have e2:∃ x,look st.H o2 = some x:=by
    by_cases heq:id = o2
    ·subst heq; exact ⟨_,hob⟩
    ·rw [if_neg heq] at h2; exact ⟨_,h2⟩
   obtain ⟨x1,e1⟩:=e1
   obtain ⟨x2,e2⟩:=e2
   exact h.heap.apart o1 o2 x1 x2 L1 L2 e1 e2 g1 g2 hbb
 ·intro o' L' hL'
  simp only
  rw [look_setH id _ st.H o' (by rw [hob]; rfl)]
  split
  ·rfl
  ·exact h.dom o' L' hL'
 ·intro o' h7 ho'
  simp only at ho'
  rw [look_setH id _ st.H o' (by rw [hob]; rfl)] at ho'
  refine h.pin o' h7 ?_
  split at ho'
  ·rename_i e; subst e; rw [hob]; rfl
  ·exact ho'
end Go.Vai
