/- Texts of this claim: Zv8. -/
import Derived.Test.YtiipeibaiphmpaaGreatDoorTv7
import Derived.Laws.MakeOwn
set_option linter.unusedVariables false
set_option linter.unusedSimpArgs false
namespace Go.Vai
theorem wp_value {P:Program} {o:Oper} {a:Act} {w w':World} {v:Value} {K:Act → World → Prop} {Q:Exit → Act → World → Prop}
  (h:(execOp a.eval o).run P w = .ok (.value v) w') (hK:K (a.put o.dst v) w'):o.wp P a w K Q:=by
 unfold Oper.wp; rw [h]; exact hK
theorem run_append_zeros {P:Program} (w:World) (t tn ty e:TypeId) (i:TypeInfo) (z:Value) (k kn:IntKind) (ht:P.underlying t = some (.slice e)) (htn:P.underlying tn = some (.int kn)) (hi:P.info? e = some i) (hz:i.zero = some z)
  (b:Option Addr) (n:Nat) (h0:0 < n) (hs:0 < i.size) (h63:(n:Int) ≤ 140737488355328) (h48:n * i.bytes ≤ 281474976710656) :
  (Builtin.append_ #[t,tn] ty #[.slice b 0 0,.int k n]).run P w =
   .ok (.slice (some ⟨w.heap.size,0,none⟩) n (grownCap w n 0 e)) (w.drew.alloc (.cells (Builtin.zeroCells z.cells n ++ Builtin.zeroCells z.cells (grownCap w n 0 e - n)) e)):=by
 have hn:n ≠ 0:=by omega
 have hw:IntKind.i64.wrap (n:Int) = n:=by rw [IntKind.wrap_i64]; omega
 have h63':¬ (9223372036854775807 < (n:Int)):=by omega
 have h48':¬ (281474976710656 < Builtin.nextslicecap n 0 * i.bytes):=by rw [nextslicecap_zero h0]; omega
 have h48i:¬ (281474976710656 < (n:Int) * (i.bytes:Int)):=by
  rw [← Int.natCast_mul]
  omega
 have hneg:¬ ((n:Int) < 0):=by omega
 have hns:¬ (n * i.size = 0):=Nat.mul_ne_zero hn (by omega)
 cases b with
 | none=>simp [Builtin.append_,run_underlying ht,run_underlying htn,sizeOf,typeInfo,zeroValue,hi,hz,asInt,asIntOf,hw,hn,hneg,hns,h63',h48',h48i,Question.forced,run_firstCells_none,newRow,grownCap]
 | some a =>
  have hfo:=run_firstCells_some (P:=P) w.drew i.size 0 a 0 0 [] (by simp) (by simp)
  simp [Builtin.append_,run_underlying ht,run_underlying htn,sizeOf,typeInfo,zeroValue,hi,hz,asInt,asIntOf,hw,hn,hneg,hns,h63',h48',h48i,Question.forced,hfo,newRow,grownCap]
theorem QOK.fresh {E:Env} (hE:E.Ok) {T:List (Nat × AV)} {H:List (Nat × Obj)} {o:Oper} {d:Nat} {v:AV} {ob:Obj} (h:qfresh E T d o.op = some (v,ob)):QOK E T H o v [(d,ob)]:=by
 intro F ρ a w hp K Q hK
 cases hop:o.op <;> rw [hop] at h <;> simp only [qfresh] at h <;> (try (simp at h; done))
 case call c =>
  obtain ⟨callee,xs,ts⟩:=c
  cases callee <;> (try (simp at h; done))
  rename_i b
  cases b <;> (try (simp at h; done))
  simp only at h
  unfold zerosA at h
  split at h <;> (try (simp at h; done))
  rename_i t tn s x ets exs
  split at h <;> (try (simp at h; done))
  rename_i htt
  split at h <;> (try (simp at h; done))
  rename_i k0 n hvs hvx
  split at h <;> (try (simp at h; done))
  rename_i e kn hk hkn
  split at h <;> (try (simp at h; done))
  rename_i i hi
  split at h <;> (try (simp at h; done))
  rename_i hcond
  obtain ⟨h0,hm,hb,hz0,hzl⟩:=hcond
  obtain ⟨rfl,rfl⟩:=Prod.mk.inj (Option.some.inj h)
  obtain rfl:=arr2 ets; obtain rfl:=arr2 exs
  have hS:=hp.ev (x:=s) (by rw [hop]; simp [Op.operands,Call.operands]) hvs
  have hX:=(hp.ev (x:=x) (by rw [hop]; simp [Op.operands,Call.operands]) hvx).int_inv
  obtain ⟨dd,h1,h2,-⟩:=(hE.ty _ _ (Option.map_eq_some_iff.1 hk).choose_spec.1).und
  rw [(Option.map_eq_some_iff.1 hk).choose_spec.2] at h2
  cases dd <;> simp [TK.fits] at h2
  subst h2
  obtain ⟨dn,h1n,h2n,-⟩:=(hE.ty _ _ (Option.map_eq_some_iff.1 hkn).choose_spec.1).und
  rw [(Option.map_eq_some_iff.1 hkn).choose_spec.2] at h2n
  cases dn <;> simp [TK.fits] at h2n
  subst h2n
  obtain ⟨inf,g1,g2,g3,g4⟩:=(hE.ty _ _ hi).info
  obtain ⟨g5,z,g6,g7⟩:=g4 hz0
  unfold most at hm hb
  have hsz:0 < i.size:=by rw [← hzl]; exact List.length_pos_iff.2 hz0
  have hzs:z.cells.size = i.size:=by rw [g7]; simp [hzl]
  generalize hse:a.eval s = sv at hS
  cases hS with | esl ab =>
  have hnn:n = (n.toNat:Int):=by omega
  have hb2:n.toNat * i.bytes ≤ 281474976710656:=by
   rw [hnn,← Int.natCast_mul,Nat.mul_comm] at hb; omega
  have hrun:=run_append_zeros (P:=E.P) w t tn o.type e inf z k0 kn h1 h1n g1 g6 ab n.toNat (by omega) (by omega) (by omega) (by rw [g3]; exact hb2)
  have hc:=grownCap_ge w n.toNat 0 e
  generalize hcap:grownCap w n.toNat 0 e = cap at hrun hc
  rw [← hnn] at hrun
  have hrun':(execOp a.eval o).run E.P w = .ok (.value (.slice (some ⟨w.heap.size,0,none⟩) n.toNat cap)) (w.drew.alloc (.cells (Builtin.zeroCells z.cells n.toNat ++ Builtin.zeroCells z.cells (cap - n.toNat)) e)):=by
   rw [execOp_builtin' _ o .append #[s,x] #[t,tn] hop]
   simp only [builtin,List.map_toArray,List.map_cons,List.map_nil,hse,hX,Sem.run_bind,hrun,Result.andThen_ok,Sem.run_pure]
  have hcsz:(Builtin.zeroCells z.cells n.toNat ++ Builtin.zeroCells z.cells (cap - n.toNat)).size = cap * i.size:=by
   simp only [Array.size_append,Builtin.zeroCells,Array.size_map,Array.size_range,hzs,Nat.sub_mul]
   have:=Nat.mul_le_mul_right i.size hc
   omega
  refine wp_value hrun' (hK _ _ F _ (Post.fresh (els:=List.replicate n.toNat i.zero) (sz:=i.size) (cs:=Builtin.zeroCells z.cells n.toNat ++ Builtin.zeroCells z.cells (cap - n.toNat)) (w1:=w.drew) (ty:=e) rfl (Below.refl _ _).drew hp.lt ?_ ?_ ?_ ?_))
  ·intro el hel; rw [List.eq_of_mem_replicate hel,hzl]
  ·rw [hcsz]; simp; exact Nat.mul_le_mul_right _ hc
  ·intro e' el j x he hx
   rw [List.getElem?_replicate] at he
   split at he
   ·rename_i hlt
    obtain rfl:=Option.some.inj he
    have hj:j < i.size:=by rw [← hzl]; exact (List.getElem?_eq_some_iff.1 hx).1
    have hp':e' * i.size + j < n.toNat * i.size:=by
     have:=Nat.mul_le_mul_right i.size (show e' + 1 ≤ n.toNat by omega)
     rw [Nat.add_mul,Nat.one_mul] at this; omega
    refine ⟨x.toV, ?_,Rep.toV (g5 x (List.mem_of_getElem? hx))⟩
    have hmod:(e' * i.size + j) % i.size = j:=by rw [Nat.mul_comm,Nat.mul_add_mod]; exact Nat.mod_eq_of_lt hj
    have hjl:j < i.zero.length:=by omega
    have hx':i.zero[j] = x:=by rw [List.getElem?_eq_getElem hjl] at hx; exact Option.some.inj hx
    have hmod':(e' * i.size + j) % i.zero.length = j:=by rw [hzl]; exact hmod
    rw [Array.getElem?_append_left (by simp [Builtin.zeroCells,hzs]; exact hp')]
    have hp2:e' * i.size + j < n.toNat * i.zero.length:=by rw [hzl]; exact hp'
    simp [Builtin.zeroCells,g7]
    exact ⟨e' * i.size + j,by rw [Array.getElem?_eq_getElem (by simpa using hp2)]; simp,by simp [hmod',hjl,hx']⟩
   ·simp at he
  ·intro ρ' hd
   have:=RepA.own (F:=F) (w:={ w.drew with heap:=w.drew.heap.push (.cells (Builtin.zeroCells z.cells n.toNat ++ Builtin.zeroCells z.cells (cap - n.toNat)) e (0,0)) }) d 0 n.toNat cap _ hd (by simp) (by simpa using hc) (by simp only [hcsz]; simp)
   simpa using this
 case alloc t =>
  split at h
  ·rename_i i hi
   split at h
   ·rename_i h0
    obtain ⟨rfl,rfl⟩:=Prod.mk.inj (Option.some.inj h)
    obtain ⟨z,hz,hzr,-⟩:=zero_rep hE hi h0.1 F w
    have hrun:(execOp a.eval o).run E.P w = .ok (.value (.pointer (some ⟨w.heap.size,0,none⟩))) { w with heap:=w.heap.push (.cells z.cells t (0,0)) }:=by
     unfold execOp; rw [hop]
     simp [Instr.alloc,hz,newVar,newRow]
    refine wp_value hrun (hK _ _ F _ (Post.fresh (els:=[i.zero]) (sz:=i.size) (cs:=z.cells) (w1:=w) rfl (Below.refl _ _) hp.lt (by simp [h0.2]) (by have:=hzr.1; simp; omega) ?_ ?_))
    ·intro e el j x he hx
     cases e with
     | zero =>
      obtain rfl:=Option.some.inj he
      have hj:j < z.cells.size:=by rw [hzr.1]; exact (List.getElem?_eq_some_iff.1 hx).1
      exact ⟨z.cells[j],by simp [hj],hzr.2 j x _ hx (Array.getElem?_eq_getElem hj)⟩
     | succ e=>simp at he
    ·intro ρ' hd
     have:=RepA.ptr (F:=F) (w:={ w with heap:=w.heap.push (.cells z.cells t (0,0)) }) d 0 0 _ hd
     simpa using this
   ·simp at h
  ·simp at h
 case box t x =>
  split at h
  ·rename_i va hv
   split at h
   ·rename_i c hc
    obtain ⟨rfl,rfl⟩:=Prod.mk.inj (Option.some.inj h)
    obtain ⟨h1,h2⟩:=cellsOf_rep (hp.ev (x:=x) (by rw [hop]; simp [Op.operands]) hv) hc
    have hrun:(execOp a.eval o).run E.P w = .ok (.value (.pointer (some ⟨w.heap.size,0,none⟩))) { w with heap:=w.heap.push (.cells (a.eval x).cells t (0,0)) }:=by
     unfold execOp; rw [hop]
     simp [Instr.box,newVar,newRow]
    refine wp_value hrun (hK _ _ F _ (Post.fresh (els:=[c]) (sz:=c.length) (cs:=(a.eval x).cells) (w1:=w) rfl (Below.refl _ _) hp.lt (by simp) (by simp; omega) ?_ ?_))
    ·intro e el j y he hx
     cases e with
     | zero =>
      obtain rfl:=Option.some.inj he
      have hj:j < (a.eval x).cells.size:=by rw [h1]; exact (List.getElem?_eq_some_iff.1 hx).1
      exact ⟨(a.eval x).cells[j],by simp [hj],h2 j y _ hx (Array.getElem?_eq_getElem hj)⟩
     | succ e=>simp at he
    ·intro ρ' hd
     have:=RepA.ptr (F:=F) (w:={ w with heap:=w.heap.push (.cells (a.eval x).cells t (0,0)) }) d 0 0 _ hd
     simpa using this
   ·simp at h
  ·simp at h
 case makeSlice t l c =>
  split at h
  ·rename_i k1 n k2 m hl hc
   have hlv:=(hp.ev (x:=l) (by rw [hop]; simp [Op.operands]) hl).int_inv
   have hcv:=(hp.ev (x:=c) (by rw [hop]; simp [Op.operands]) hc).int_inv
   split at h
   ·rename_i e hk
    split at h
    ·rename_i i hi
     split at h
     ·rename_i hcond
      obtain ⟨rfl,h0,hm,hb,hz0,hzl⟩:=hcond
      obtain ⟨rfl,rfl⟩:=Prod.mk.inj (Option.some.inj h)
      obtain ⟨dd,h1,h2,-⟩:=(hE.ty _ _ (Option.map_eq_some_iff.1 hk).choose_spec.1).und
      rw [(Option.map_eq_some_iff.1 hk).choose_spec.2] at h2
      cases dd <;> simp [TK.fits] at h2
      subst h2
      obtain ⟨inf,g1,g2,g3,g4⟩:=(hE.ty _ _ hi).info
      obtain ⟨g5,z,g6,g7⟩:=g4 hz0
      unfold most at hm hb
      have hrun:=run_make (P:=E.P) w t e inf z h1 g1 g6 k1 k2 n n h0 (Int.le_refl _) (by rw [g3]; omega) (by omega)
      rw [g2] at hrun
      have hzs:z.cells.size = i.size:=by rw [g7]; simp [hzl]
      have hrun':(execOp a.eval o).run E.P w = .ok (.value (.slice (some ⟨w.heap.size,0,none⟩) n.toNat n.toNat)) { w with heap:=w.heap.push (.cells (madeCells z.cells (n.toNat * i.size)) e (0,0)) }:=by
       unfold execOp; rw [hop]; dsimp only; rw [hlv,hcv]; exact by simp only [Sem.run_bind,hrun,Result.andThen_ok,Sem.run_pure]; rfl
      refine wp_value hrun' (hK _ _ F _ (Post.fresh (els:=List.replicate n.toNat i.zero) (sz:=i.size) (cs:=madeCells z.cells (n.toNat * i.size)) (w1:=w) rfl (Below.refl _ _) hp.lt ?_ (by simp [size_madeCells]) ?_ ?_))
      ·intro el hel; rw [List.eq_of_mem_replicate hel,hzl]
      ·intro e' el j x he hx
       rw [List.getElem?_replicate] at he
       split at he
       ·rename_i hlt
        obtain rfl:=Option.some.inj he
        have hj:j < i.size:=by rw [← hzl]; exact (List.getElem?_eq_some_iff.1 hx).1
        have hp':e' * i.size + j < n.toNat * i.size:=by
         have:=Nat.mul_le_mul_right i.size (show e' + 1 ≤ n.toNat by omega)
         rw [Nat.add_mul,Nat.one_mul] at this; omega
        refine ⟨x.toV, ?_,Rep.toV (g5 x (List.mem_of_getElem? hx))⟩
        have hmod:(e' * i.size + j) % i.size = j:=by rw [Nat.mul_comm,Nat.mul_add_mod]; exact Nat.mod_eq_of_lt hj
        have hjl:j < i.zero.length:=by omega
        have hx':i.zero[j] = x:=by rw [List.getElem?_eq_getElem hjl] at hx; exact Option.some.inj hx
        have hmod':(e' * i.size + j) % i.zero.length = j:=by rw [hzl]; exact hmod
        simp [madeCells,hp',hzs,hmod',g7,hjl,hx']
       ·simp at he
      ·intro ρ' hd
       have:=RepA.own (F:=F) (w:={ w with heap:=w.heap.push (.cells (madeCells z.cells (n.toNat * i.size)) e (0,0)) }) d 0 n.toNat n.toNat _ hd (by simp) (Nat.le_refl _) (by simp [size_madeCells])
       simpa using this
     ·simp at h
    ·simp at h
   ·simp at h
  ·simp at h
 case buildSlice t len ps =>
  split at h
  ·rename_i e hk
   split at h
   ·rename_i i hi
    split at h
    ·rename_i hcond
     split at h
     ·rename_i els hels
      split at h
      ·rename_i hlen
       obtain ⟨dd,h1,h2,-⟩:=tk_und hE hk w
       cases dd <;> simp [TK.fits] at h2
       subst h2
       obtain ⟨z,hz,hzr,-⟩:=zero_rep hE hi hcond.2.1 F w
       have hsz0:(if len * i.size = 0 then Pure.pure #[] else do Pure.pure (← zeroValue e).cells:Sem (Array Value)).run E.P w = .ok (if len * i.size = 0 then #[] else z.cells) w:=by
        split
        ·rfl
        ·simp [hz]
       obtain ⟨ds,hd,hs,-,hl,hrep⟩:=parts_fill hp i.size ps.toList 0 ((Array.range (len * i.size)).map ((if len * i.size = 0 then #[] else z.cells)[· % (if len * i.size = 0 then (#[]:Array Value) else z.cells).size]!)) els
        (fun p hpp=>by rw [hop]; simp only [Op.operands]; exact List.mem_toArray.2 (List.mem_map.2 ⟨p,hpp,rfl⟩)) hels (by simp [hlen])
       have hds:ds.size = len * i.size:=by rw [hs]; simp
       have hrun:(execOp a.eval o).run E.P w = .ok (.value (.slice (some ⟨w.heap.size,0,none⟩) len len)) { w with heap:=w.heap.push (.cells ds e (0,0)) }:=by
        unfold execOp; rw [hop]
        have hbig:¬ (len * i.size > 2 ^ 24):=by omega
        dsimp only
        unfold Instr.buildSlice
        simp only [Sem.run_bind,h1,Result.andThen_ok,size_run hE hi,hbig,if_false,hsz0,Sem.run_pure]
        have e1:(ps.map fun x=>(x.1,a.eval x.2)).toList = ps.toList.map fun p=>(p.1,a.eval p.2):=by simp
        rw [e1]
        by_cases hn0:len * i.size = 0
        ·simp only [hn0,if_true,Sem.run_bind,Sem.run_pure,Result.andThen_ok] at hd ⊢
         rw [hd]; rfl
        ·simp only [hn0,if_false,Sem.run_bind,Sem.run_pure,Result.andThen_ok,hz] at hd ⊢
         rw [hd]; rfl
       have hcell:∀ (e':Nat) (el:List IV) (j:Nat) (x:IV),els[e']? = some el → el[j]? = some x → ∃ u,ds[e' * i.size + j]? = some u ∧ Rep F w x u:=by
        intro e' el j x he hx
        have:=hrep e' el j x he hx
        simpa using this
       split at h
       ·rename_i hl0
        obtain ⟨rfl,rfl⟩:=Prod.mk.inj (Option.some.inj h)
        refine wp_value hrun (hK _ _ F _ (Post.fresh (els:=[]) (sz:=i.size) (cs:=ds) (w1:=w) rfl (Below.refl _ _) hp.lt (by simp) (by simp) (by simp) fun ρ' _=>?_))
        subst hl0; exact .esl _
       ·obtain ⟨rfl,rfl⟩:=Prod.mk.inj (Option.some.inj h)
        refine wp_value hrun (hK _ _ F _ (Post.fresh (els:=els) (sz:=i.size) (cs:=ds) (w1:=w) rfl (Below.refl _ _) hp.lt hl (by rw [hds,hlen]; omega) hcell fun ρ' hd'=>?_))
        have:=RepA.own (F:=F) (w:={ w with heap:=w.heap.push (.cells ds e (0,0)) }) d 0 len len _ hd' (by simp [hlen]) (Nat.le_refl _) (by simp [hds])
        simpa using this
      ·simp at h
     ·simp at h
    ·simp at h
   ·simp at h
  ·simp at h
def cellA (E:Env) (T:List (Nat × AV)):Op → Option AV
 | .box _ x=>match evA E T x with
  | some (.own o off len)=>some (.cell o off len)
  | _=>none
 | _=>none
theorem QOK.cell {E:Env} {T:List (Nat × AV)} {H:List (Nat × Obj)} {o:Oper} {v:AV} (h:cellA E T o.op = some v):QOK E T H o v []:=by
 intro F ρ a w hp K Q hK
 cases hop:o.op <;> rw [hop] at h <;> simp only [cellA] at h <;> (try (simp at h; done))
 rename_i t x
 split at h <;> (try (simp at h; done))
 rename_i oo off len hv
 obtain rfl:=Option.some.inj h
 have hx:=hp.ev (x:=x) (by rw [hop]; simp [Op.operands]) hv
 have hcells:(a.eval x).cells = #[a.eval x]:=by
  generalize a.eval x = u at hx
  cases hx <;> rfl
 have hrun:(execOp a.eval o).run E.P w = .ok (.value (.pointer (some ⟨w.heap.size,0,none⟩))) { w with heap:=w.heap.push (.cells (a.eval x).cells t (0,0)) }:=by
  unfold execOp; rw [hop]
  simp [Instr.box,newVar,newRow]
 have hold:∀ b,F b → ({ w with heap:=w.heap.push (.cells (a.eval x).cells t (0,0)) }:World).heap[b]? = w.heap[b]?:=fun b hb=>heap_push w _ b (hp.lt b hb)
 refine wp_value hrun (hK _ _ (fun b=>F b ∨ b = w.heap.size) ρ ⟨below_push w _,fun _ h=>.inl h,fun b h=>?_,fun b h=>?_, ?_,fun _ _=>rfl,fun _ _ _ h=>by simp [look] at h,fun _ _ h=>by simp [look] at h,fun _ _ _ _ _ _ h=>by simp [look] at h⟩)
 ·rcases h with h | h
  ·exact .inl h
  ·exact .inr (by omega)
 ·rcases h with h | h
  ·have:=hp.lt b h; simp; omega
  ·subst h; simp
 ·refine .cell oo off len (a.eval x) w.heap.size (.inr rfl) ?_ (hx.mono (fun _ h=>.inl h) hold fun _ _ h=>h)
  simp [World.cell?,hcells]
end Go.Vai
