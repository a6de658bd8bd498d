/- Texts of this claim: Zv11c. -/
import Derived.Test.YtiipeibaiphmpaaGreatDoorTv11b
set_option linter.unusedVariables false
set_option linter.unusedSimpArgs false
namespace Go.Vai
def isClr:Op → Option (TypeId × Operand)
 | .call { callee:=.builtin .clear,args:=xs,argTypes:=ts }=>match ts.toList,xs.toList with
  | [t],[x]=>some (t,x)
  | _,_=>none
 | _=>none
theorem isClr_spec {op:Op} {t:TypeId} {x:Operand} (hs:isClr op = some (t,x)):op = .call { callee:=.builtin .clear,args:=#[x],argTypes:=#[t] }:=by
 cases op <;> simp only [isClr] at hs <;> (try (simp at hs; done))
 rename_i c
 obtain ⟨callee,xs,ts⟩:=c
 cases callee <;> (try simp only [isClr] at hs) <;> (try (simp at hs; done))
 rename_i b
 cases b <;> (try simp only [isClr] at hs) <;> (try (simp at hs; done))
 split at hs <;> (try (simp at hs; done))
 rename_i t1 x1 e1 e2
 simp only [Option.some.injEq,Prod.mk.injEq] at hs
 obtain ⟨rfl,rfl⟩:=hs
 rw [arr1 e1,arr1 e2]
def clr (els:List (List IV)) (off len:Nat) (z:List IV):List (List IV):=els.take off ++ List.replicate len z ++ els.drop (off + len)
def clearA (E:Env) (st:St) (t:TypeId):AV → Option St
 | .own o off len=>match look st.H o with
  | some ob=>match tkOf E t with
   | some (.slice e)=>match E.τ e with
    | some i=>if i.zero ≠ [] ∧ i.zero.length = i.size ∧ ob.sz = i.size ∧ off + len ≤ ob.els.length then some ⟨st.T,setH o ⟨ob.sz,clr ob.els off len i.zero⟩ st.H⟩ else none
    | none=>none
   | _=>none
  | none=>none
 | _=>none
theorem clr_length (els:List (List IV)) (off len:Nat) (z:List IV) (h:off + len ≤ els.length):(clr els off len z).length = els.length:=by
 simp [clr]; omega
theorem clr_get (els:List (List IV)) (off len:Nat) (z:List IV) (h:off + len ≤ els.length) (e:Nat) :
  (clr els off len z)[e]? = if off ≤ e ∧ e < off + len then some z else els[e]?:=by
 unfold clr
 have h1:(els.take off).length = off:=by simp; omega
 rw [List.append_assoc,List.getElem?_append,h1]
 by_cases he:e < off
 ·rw [if_pos he,if_neg (by omega),List.getElem?_take,if_pos he]
 ·rw [if_neg he,List.getElem?_append,List.length_replicate]
  by_cases hl:e - off < len
  ·rw [if_pos hl,if_pos (by omega),List.getElem?_replicate,if_pos hl]
  ·rw [if_neg hl,if_neg (by omega),List.getElem?_drop]
   congr 1; omega
theorem clr_zero (els:List (List IV)) (off:Nat) (z:List IV):clr els off 0 z = els:=by simp [clr]
theorem clearA_wp {E:Env} (hE:E.Ok) {w0:Base} {F0:Nat → Prop} {n:Nat} {st st':St} {a:Act} {w:World} {F:Nat → Prop} {ρ:Locs} (hx:Ctx E w0 F0) (h:Fit w0 F0 n st a w F ρ)
  {o:Oper} {t:TypeId} {x:Operand} (hop:o.op = .call { callee:=.builtin .clear,args:=#[x],argTypes:=#[t] }) (hd:o.dst = none) {va:AV} (hva:evA E st.T x = some va)
  (hs:clearA E st t va = some st') (Q:Exit → Act → World → Prop):o.wp E.P a w (Fits w0 F0 n st') Q:=by
 have hp:=h.pre hx o
 have ha:=hp.ev (x:=x) (by rw [hop]; simp [Op.operands,Call.operands]) hva
 unfold clearA at hs
 split at hs <;> (try (simp at hs; done))
 rename_i id off len
 split at hs <;> (try (simp at hs; done))
 rename_i ob hob
 split at hs <;> (try (simp at hs; done))
 rename_i e hk
 split at hs <;> (try (simp at hs; done))
 rename_i i hi
 split at hs <;> (try (simp at hs; done))
 rename_i hcond
 obtain ⟨hz0,hzl,hobs,hol⟩:=hcond
 obtain rfl:=Option.some.inj hs
 have hund:=tk_P hE hk
 have hlk:=fun t=>look_setH id ⟨ob.sz,clr ob.els off len i.zero⟩ st.H t (by rw [hob]; rfl)
 have nothing:len = 0 → (execOp a.eval o).run E.P w = .ok (.value (.tuple #[])) w → o.wp E.P a w (Fits w0 F0 n ⟨st.T,setH id ⟨ob.sz,clr ob.els off len i.zero⟩ st.H⟩) Q:=by
  intro h0 hrun
  subst h0
  rw [clr_zero]
  refine wp_value hrun ?_
  rw [hd]
  have hsame:∀ t,look (setH id ⟨ob.sz,ob.els⟩ st.H) t = look st.H t:=fun t=>by
   rw [look_setH id _ st.H t (by rw [hob]; rfl)]
   split
   ·rename_i e; subst e; rw [hob]
   ·rfl
  refine ⟨F,ρ,⟨⟨h.below,h.defers,h.size,h.sub,h.sup,h.lt,h.tmps,⟨fun o' ob' L' hob' hL'=>?_,fun o' ob' hob' hne=>?_,fun o1 o2 ob1 ob2 L1 L2 h1 h2 g1 g2 hbb=>?_⟩⟩,fun o' L' hL'=>?_,fun o' h7 ho'=>?_⟩⟩
  ·rw [show look (St.mk st.T (setH id ⟨ob.sz,ob.els⟩ st.H)).H o' = look st.H o' from hsame o'] at hob'
   exact h.heap.obj o' ob' L' hob' hL'
  ·rw [show look (St.mk st.T (setH id ⟨ob.sz,ob.els⟩ st.H)).H o' = look st.H o' from hsame o'] at hob'
   exact h.heap.sm o' ob' hob' hne
  ·rw [show look (St.mk st.T (setH id ⟨ob.sz,ob.els⟩ st.H)).H o1 = look st.H o1 from hsame o1] at h1
   rw [show look (St.mk st.T (setH id ⟨ob.sz,ob.els⟩ st.H)).H o2 = look st.H o2 from hsame o2] at h2
   exact h.heap.apart o1 o2 ob1 ob2 L1 L2 h1 h2 g1 g2 hbb
  ·show (look (setH id ⟨ob.sz,ob.els⟩ st.H) o').isSome = true
   rw [hsame]; exact h.dom o' L' hL'
  ·have ho2:(look (setH id ⟨ob.sz,ob.els⟩ st.H) o').isSome = true:=ho'
   rw [hsame] at ho2; exact h.pin o' h7 ho2
 generalize hae:a.eval x = av at ha
 have hargs:(#[x].map a.eval:Array Value) = #[av]:=by simp [hae]
 cases ha with
 | ownE _ _ ad =>
  refine nothing rfl ?_
  rw [execOp_builtin' _ o .clear _ _ hop,hargs]
  simp only [builtin,Sem.run_bind]
  cases ad <;> simp [Builtin.clear_,run_underlying hund]
 | own _ _ _ c L ho hm hlc hN =>
  by_cases hl0:len = 0
  ·refine nothing hl0 ?_
   subst hl0
   rw [execOp_builtin' _ o .clear _ _ hop,hargs]
   simp only [builtin,Sem.run_bind]
   simp [Builtin.clear_,run_underlying hund]
  obtain ⟨hor,hB,hnF⟩:=h.heap.obj id ob L hob ho
  obtain ⟨k1,k2,k3,k4,cur,ty,k5,k6,k7⟩:=hor
  obtain ⟨inf,g1,g2,g3,g4⟩:=(hE.ty _ _ hi).info
  obtain ⟨g5,z,g6,g7⟩:=g4 hz0
  have hzs:z.cells.size = i.size:=by rw [g7]; simp [hzl]
  have hsz:0 < i.size:=by rw [← hzl]; exact List.length_pos_iff.2 hz0
  have hLsz:L.sz = i.size:=k1.trans hobs
  have hzc:∀ p,p < len * i.size → (Builtin.zeroCells z.cells len)[p]? = some ((i.zero[p % i.size]?.getD default).toV):=by
   intro p hp
   have hj:p % i.zero.length < i.zero.length:=Nat.mod_lt _ (by omega)
   have hp2:p < len * i.zero.length:=by rw [hzl]; exact hp
   rw [← hzl]
   simp only [Builtin.zeroCells,g7]
   simp [hp2,hj]
  have hzn:(Builtin.zeroCells z.cells len).toList.length = len * i.size:=by simp [zeroCells_size,hzs]
  have hfit:L.base + off * L.sz + (Builtin.zeroCells z.cells len).toList.length ≤ cur.size:=by
   rw [hzn,k6,hLsz]
   have:=Nat.mul_le_mul_right i.size (show off + len ≤ ob.els.length by omega)
   rw [Nat.add_mul] at this
   rw [hobs] at k4
   omega
  have hone:∀ u ∈ (Builtin.zeroCells z.cells len).toList,u.oneCell' = true:=by
   intro u hu
   obtain ⟨q,hq⟩:=List.mem_iff_getElem?.1 hu
   have hql:q < len * i.size:=by rw [← hzn]; exact (List.getElem?_eq_some_iff.1 hq).1
   have hq':(Builtin.zeroCells z.cells len)[q]? = some u:=by simpa using hq
   rw [hzc q hql] at hq'
   obtain rfl:=Option.some.inj hq'
   have hj:q % i.size < i.zero.length:=by rw [hzl]; exact Nat.mod_lt _ hsz
   rw [List.getElem?_eq_getElem hj]
   exact (Rep.toV (F:=F) (w:=w) (g5 _ (List.getElem_mem hj))).oneCell
  have hst:=run_storeCells_at E.P L.b (L.base + off * L.sz) ty (Builtin.zeroCells z.cells len).toList 0 cur w k5 (by simpa using hfit) hone
  simp only [Nat.add_zero] at hst
  generalize hnew:(cur.toList.take (L.base + off * L.sz) ++ (Builtin.zeroCells z.cells len).toList ++ cur.toList.drop (L.base + off * L.sz + (Builtin.zeroCells z.cells len).toList.length)).toArray = new at hst
  have hrun:(execOp a.eval o).run E.P w = .ok (.value (.tuple #[])) (w.setRow L.b new):=by
   rw [execOp_builtin' _ o .clear _ _ hop,hargs]
   simp only [builtin,Sem.run_bind]
   cases len with
   | zero=>exact absurd rfl hl0
   | succ len=>simp [Builtin.clear_,run_underlying hund,zeroValue,typeInfo,g1,g6,hst]
  refine wp_value hrun ?_
  rw [hd]
  have hFne:∀ b,F b → b ≠ L.b:=fun b hb e=>hnF (e ▸ hb)
  have hFw:∀ b,F b → (w.setRow L.b new).heap[b]? = w.heap[b]?:=fun b hb=>heap_setRow_ne w L.b new b (hFne b hb)
  have hget:=row_get cur (L.base + off * L.sz) (Builtin.zeroCells z.cells len).toList hfit
  have hnsz:new.size = cur.size:=by
   rw [← hnew]; simp; simp at hfit; omega
  refine ⟨F,ρ,⟨⟨below_setRow h.below hB new,h.defers,h.size,h.sub,h.sup,fun b hb=>by rw [size_setRow]; exact h.lt b hb,fun t v hv=>(h.tmps t v hv).mono (fun _ h=>h) hFw fun _ _ h=>h, ?_⟩, ?_, ?_⟩⟩
  ·refine ⟨fun o' ob' L' hob' hL'=>?_,fun o' ob' hob' hne=>?_,fun o1 o2 ob1 ob2 L1 L2 h1 h2 g1 g2 hbb=>?_⟩
   ·simp only at hob'
    rw [hlk] at hob'
    by_cases heq:id = o'
    ·subst heq
     rw [if_pos rfl] at hob'
     obtain rfl:=Option.some.inj hob'
     obtain rfl:L = L':=Option.some.inj (ho.symm.trans hL')
     refine ⟨⟨k1,by rw [k2]; exact (clr_length _ _ _ _ hol).symm,fun x hx=>?_,by simp only [clr_length _ _ _ _ hol]; exact k4,new,ty,heap_setRow w L.b new cur ty k5,hnsz.trans k6,fun e' el' q x he' hx=>?_⟩,hB,hnF⟩
     ·obtain ⟨p,hp'⟩:=List.mem_iff_getElem?.1 hx
      simp only at hp'
      rw [clr_get _ _ _ _ hol] at hp'
      split at hp'
      ·obtain rfl:=Option.some.inj hp'; exact hzl.trans hobs.symm
      ·exact k3 x (List.mem_of_getElem? hp')
     ·simp only at he'
      rw [clr_get _ _ _ _ hol] at he'
      split at he'
      ·rename_i hin
       obtain rfl:=Option.some.inj he'
       have hq:q < i.size:=by rw [← hzl]; exact (List.getElem?_eq_some_iff.1 hx).1
       have hp1:(e' - off) * i.size + q < len * i.size:=by
        have:=Nat.mul_le_mul_right i.size (show e' - off + 1 ≤ len by omega)
        rw [Nat.add_mul,Nat.one_mul] at this; omega
       have he2:e' * i.size = off * i.size + (e' - off) * i.size:=by rw [← Nat.add_mul]; congr 1; omega
       have hmod:((e' - off) * i.size + q) % i.size = q:=by rw [Nat.mul_comm,Nat.mul_add_mod]; exact Nat.mod_eq_of_lt hq
       refine ⟨x.toV, ?_,Rep.toV (g5 x (List.mem_of_getElem? hx))⟩
       have hget2:=hget (L.base + e' * L.sz + q)
       rw [hnew] at hget2
       rw [hget2,hzn,hLsz,if_pos (by rw [he2]; omega),show L.base + e' * i.size + q - (L.base + off * i.size) = (e' - off) * i.size + q by rw [he2]; omega]
       have:=hzc _ hp1
       rw [hmod,hx] at this
       simpa using this
      ·rename_i hin
       obtain ⟨u,hu,hr⟩:=k7 e' el' q x he' hx
       refine ⟨u, ?_,hr.mono (fun _ h=>h) hFw⟩
       have hel':=k3 el' (List.mem_of_getElem? he')
       have hql:q < el'.length:=(List.getElem?_eq_some_iff.1 hx).1
       have hget2:=hget (L.base + e' * L.sz + q)
       rw [hnew] at hget2
       rw [hget2,if_neg]
       ·exact hu
       ·rw [hzn,hLsz]
        rw [hel',hobs] at hql
        by_cases h1:e' < off
        ·have:=Nat.mul_le_mul_right i.size (show e' + 1 ≤ off by omega)
         rw [Nat.add_mul,Nat.one_mul] at this
         omega
        ·have:=Nat.mul_le_mul_right i.size (show off + len ≤ e' by omega)
         rw [Nat.add_mul] at this
         omega
    ·rw [if_neg heq] at hob'
     obtain ⟨g1,g2,g3⟩:=h.heap.obj o' ob' L' hob' hL'
     have hne:L'.b ≠ L.b:=fun e=>heq (h.heap.apart id o' ob ob' L L' hob hob' ho hL' e.symm)
     exact ⟨g1.mono (fun _ h=>h) hFw (heap_setRow_ne w L.b new _ hne),g2,g3⟩
   ·simp only at hob'
    rw [hlk] at hob'
    by_cases heq:id = o'
    ·subst heq; rw [ho]; rfl
    ·rw [if_neg heq] at hob'; exact h.heap.sm o' ob' hob' hne
   ·simp only at h1 h2
    rw [hlk] at h1 h2
    have e1:∃ x,look st.H o1 = some x:=by
     by_cases heq:id = o1
     ·subst heq; exact ⟨_,hob⟩
     ·rw [if_neg heq] at h1; exact ⟨_,h1⟩
    have e2:∃ x,look st.H o2 = some x:=by
     by_cases heq:id = o2
     ·subst heq; exact ⟨_,hob⟩
     ·rw [if_neg heq] at h2; exact ⟨_,h2⟩
    obtain ⟨x1,e1⟩:=e1
    obtain ⟨x2,e2⟩:=e2
    exact h.heap.apart o1 o2 x1 x2 L1 L2 e1 e2 g1 g2 hbb
  ·intro o' L' hL'
   simp only
   rw [look_setH id _ st.H o' (by rw [hob]; rfl)]
   split
   ·rfl
   ·exact h.dom o' L' hL'
  ·intro o' h7 ho'
   simp only at ho'
   rw [look_setH id _ st.H o' (by rw [hob]; rfl)] at ho'
   refine h.pin o' h7 ?_
   split at ho'
   ·rename_i e; subst e; rw [hob]; rfl
   ·exact ho'
end Go.Vai
