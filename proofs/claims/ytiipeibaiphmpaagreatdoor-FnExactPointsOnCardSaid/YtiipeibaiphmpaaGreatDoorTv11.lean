/- Texts of this claim: Zv11. -/
import Derived.Test.YtiipeibaiphmpaaGreatDoorTv10
set_option linter.unusedVariables false
set_option linter.unusedSimpArgs false
namespace Go.Vai
def putT (dst:Option Nat) (v:AV) (T:List (Nat × AV)):List (Nat × AV) :=
 match dst with
 | some d=>(d,v) :: T
 | none=>T
def St.eff (st:St) (dst:Option Nat) (v:AV) (frs:List (Nat × Obj)):St:=⟨putT dst v st.T,frs ++ st.H⟩
theorem put_getD {a:Act} {d:Nat} {v:Value} (h:d < a.tmps.size) (t:Nat):(a.put (some d) v).tmps.getD t undef = if d = t then v else a.tmps.getD t undef:=by
 simp only [Act.put]
 rw [Array.getD_eq_getD_getElem?,Array.getD_eq_getD_getElem?,Array.getElem?_setIfInBounds]
 split
 ·rename_i h1; subst h1; simp [h]
 ·rfl
theorem fit_tmps {F:Nat → Prop} {ρ:Locs} {w:World} {T:List (Nat × AV)} {a:Act} {dst:Option Nat} {v:AV} {cv:Value}
  (h:∀ t v,look T t = some v → RepA F ρ w v (a.tmps.getD t undef)) (hv:RepA F ρ w v cv) (hd:∀ d,dst = some d → d < a.tmps.size) :
  ∀ t u,look (putT dst v T) t = some u → RepA F ρ w u ((a.put dst cv).tmps.getD t undef):=by
 intro t u hu
 cases dst with
 | none=>exact h t u hu
 | some d =>
  rw [put_getD (hd d rfl)]
  simp only [putT,look_cons] at hu
  split at hu
  ·rename_i hdt; rw [if_pos hdt]; obtain rfl:=Option.some.inj hu; exact hv
  ·rename_i hdt; rw [if_neg hdt]; exact h t u hu
theorem put_defers' (a:Act) (dst:Option Nat) (v:Value):(a.put dst v).defers = a.defers:=by cases dst <;> rfl
theorem put_size' (a:Act) (dst:Option Nat) (v:Value):(a.put dst v).tmps.size = a.tmps.size:=by cases dst <;> simp [Act.put]
theorem Fit.post {w0:Base} {F0:Nat → Prop} {n:Nat} {st:St} {a:Act} {w w':World} {F F':Nat → Prop} {ρ ρ':Locs} {v:AV} {frs:List (Nat × Obj)} {cv:Value} {dst:Option Nat}
  (h:Fit w0 F0 n st a w F ρ) (hp:Post F ρ w v frs F' ρ' w' cv) (hfresh:∀ o,(look frs o).isSome = true → look st.H o = none ∧ o < 700000) (hd:∀ d,dst = some d → d < n) :
  Fit w0 F0 n (st.eff dst v frs) (a.put dst cv) w' F' ρ':=by
 have hFw:∀ b,F b → w'.heap[b]? = w.heap[b]?:=fun b hb=>hp.below.block b (h.lt b hb)
 have hB0:∀ b,w.heap.size ≤ b → w0.mine b:=fun b hb=>.inl (Nat.le_trans h.below.size hb)
 have hρ:∀ o L,ρ o = some L → ρ' o = some L:=by
  intro o L hL
  have h1:=h.dom o L hL
  have h2:look frs o = none:=by
   cases hq:look frs o with
   | none=>rfl
   | some x=>have:=(hfresh o (by rw [hq]; rfl)).1; rw [this] at h1; simp at h1
  rw [hp.old o h2]; exact hL
 have hlk:∀ o ob,look (frs ++ st.H) o = some ob → look frs o = some ob ∨ (look frs o = none ∧ look st.H o = some ob):=by
  intro o ob ho
  rw [look_append] at ho
  split at ho
  ·rename_i q hq; obtain rfl:=Option.some.inj ho; exact .inl hq
  ·rename_i hq; exact .inr ⟨hq,ho⟩
 have hblt:∀ o ob L,look st.H o = some ob → ρ o = some L → L.b < w.heap.size:=by
  intro o ob L ho hL
  obtain ⟨cs,ty,h3,-⟩:=(h.heap.obj o ob L ho hL).1.at_
  exact (Array.getElem?_eq_some_iff.1 h3).1
 refine ⟨⟨?_, ?_, ?_,fun b hb=>hp.sub b (h.sub b hb),fun b hb=>?_,hp.lt, ?_,⟨fun o ob L ho hL=>?_,fun o ob ho hne=>?_,fun o o' ob ob' L L' ho ho' hL hL' hbb=>?_⟩⟩,fun o L hL=>?_,fun o h7 ho=>?_⟩
 ·exact h.below.below hp.below
 ·rw [put_defers']; exact h.defers
 ·rw [put_size']; exact h.size
 ·rcases hp.sup b hb with hb | hb
  ·exact h.sup b hb
  ·exact .inr (hB0 b hb)
 ·exact fit_tmps (fun t u hu=>(h.tmps t u hu).mono hp.sub hFw hρ) hp.rep (fun d hd'=>by rw [h.size]; exact hd d hd')
 ·rcases hlk o ob ho with ho | ⟨hn,ho⟩
  ·obtain ⟨g1,g2,g3⟩:=hp.obj o ob L ho hL
   exact ⟨g1,hB0 _ g2,g3⟩
  ·rw [hp.old o hn] at hL
   obtain ⟨g1,g2,g3⟩:=h.heap.obj o ob L ho hL
   have hlt:=hblt o ob L ho hL
   refine ⟨g1.mono hp.sub hFw (hp.below.block _ hlt),g2,fun hF=>?_⟩
   rcases hp.sup _ hF with hF | hF
   ·exact g3 hF
   ·omega
 ·rcases hlk o ob ho with ho | ⟨hn,ho⟩
  ·exact hp.sm o ob ho hne
  ·rw [hp.old o hn]; exact h.heap.sm o ob ho hne
 ·rcases hlk o ob ho with ho | ⟨hn,ho⟩ <;> rcases hlk o' ob' ho' with ho' | ⟨hn',ho'⟩
  ·exact hp.apart o o' ob ob' L L' ho ho' hL hL' hbb
  ·rw [hp.old o' hn'] at hL'
   have:=hblt o' ob' L' ho' hL'
   have:=(hp.obj o ob L ho hL).2.1
   omega
  ·rw [hp.old o hn] at hL
   have:=hblt o ob L ho hL
   have:=(hp.obj o' ob' L' ho' hL').2.1
   omega
  ·rw [hp.old o hn] at hL; rw [hp.old o' hn'] at hL'
   exact h.heap.apart o o' ob ob' L L' ho ho' hL hL' hbb
 ·show (look (frs ++ st.H) o).isSome = true
  rw [look_append]
  cases hq:look frs o with
  | some x=>rfl
  | none=>rw [hp.old o hq] at hL; exact h.dom o L hL
 ·have ho':(look (frs ++ st.H) o).isSome = true:=ho
  rw [look_append] at ho'
  cases hq:look frs o with
  | some x=>have:=(hfresh o (by rw [hq]; rfl)).2; omega
  | none=>rw [hq] at ho'; rw [hp.old o hq]; exact h.pin o h7 ho'
def ElsAt (F:Nat → Prop) (w:World) (b off sz:Nat) (els:List (List IV)):Prop :=
 (∀ el ∈ els,el.length = sz) ∧ ∀ (i:Nat) el,els[i]? = some el → CellsRep F w b (off + i * sz) el
theorem ElsAt.values {F:Nat → Prop} {w:World} {b off sz:Nat} {els:List (List IV)} (h:ElsAt F w b off sz els) (hsz:0 < sz) :
  ∃ vs:List Value,vs.length = els.length * sz ∧ (∀ p u,vs[p]? = some u → w.cell? ⟨b,off + p,none⟩ = some u) ∧
   ∀ (i:Nat) (el:List IV) (j:Nat) (x:IV),els[i]? = some el → el[j]? = some x → ∃ u,vs[i * sz + j]? = some u ∧ Rep F w x u:=by
 obtain ⟨vs,h1,h2⟩:=choose_list (R:=fun p u=>w.cell? ⟨b,off + p,none⟩ = some u ∧ ∀ el x,els[p / sz]? = some el → el[p % sz]? = some x → Rep F w x u) (els.length * sz) (fun p hp=>by
  have hi:p / sz < els.length:=Nat.div_lt_of_lt_mul (by rw [Nat.mul_comm]; exact hp)
  have hel:=List.getElem?_eq_getElem hi
  have hlen:=h.1 _ (List.getElem_mem hi)
  have hj:p % sz < els[p / sz].length:=by rw [hlen]; exact Nat.mod_lt _ hsz
  obtain ⟨u,hu,hr⟩:=h.2 (p / sz) _ hel (p % sz) _ (List.getElem?_eq_getElem hj)
  refine ⟨u, ?_,fun el x he hx=>?_⟩
  ·rw [show off + p = off + p / sz * sz + p % sz by rw [Nat.add_assoc,Nat.mul_comm,Nat.div_add_mod]]; exact hu
  ·rw [hel] at he
   obtain rfl:=Option.some.inj he
   rw [List.getElem?_eq_getElem hj] at hx
   obtain rfl:=Option.some.inj hx
   exact hr)
 refine ⟨vs,h1,fun p u hu=>(h2 p u hu).1,fun i el j x he hx=>?_⟩
 have hil:i < els.length:=(List.getElem?_eq_some_iff.1 he).1
 have hjl:j < sz:=by rw [← h.1 el (List.mem_of_getElem? he)]; exact (List.getElem?_eq_some_iff.1 hx).1
 have hp:i * sz + j < vs.length:=by
  rw [h1]
  have:=Nat.mul_le_mul_right sz (show i + 1 ≤ els.length by omega)
  rw [Nat.add_mul,Nat.one_mul] at this; omega
 refine ⟨vs[i * sz + j],List.getElem?_eq_getElem hp,(h2 _ _ (List.getElem?_eq_getElem hp)).2 el x ?_ ?_⟩
 ·rw [show (i * sz + j) / sz = i by rw [Nat.mul_comm,Nat.mul_add_div hsz,Nat.div_eq_of_lt hjl,Nat.add_zero]]; exact he
 ·rw [show (i * sz + j) % sz = j by rw [Nat.mul_comm,Nat.mul_add_mod,Nat.mod_eq_of_lt hjl]]; exact hx
def srcA (H:List (Nat × Obj)):AV → Option (List (List IV) × Option Nat)
 | .i (.sl els)=>some (els,none)
 | .i (.raw (.slice _ 0 _))=>some ([],none)
 | .esl=>some ([],none)
 | .own o off len=>match look H o with
  | some ob=>some ((ob.els.drop off).take len,some o)
  | none=>none
 | _=>none
def appendA (E:Env) (st:St) (d:Nat) (t:TypeId) (s x:AV):Option (AV × St) :=
 match tkOf E t with
 | some (.slice e)=>match E.τ e with
  | some i=>match srcA st.H x with
   | some (ys,o2)=>if i.zero ≠ [] ∧ i.zero.length = i.size ∧ allLen i.size ys = true then match s with
     | .esl=>if ((ys.length:Nat):Int) ≤ most ∧ ((ys.length * i.bytes:Nat):Int) ≤ most ∧ (look st.H d).isNone = true ∧ d < 700000 then some (.own d 0 ys.length,⟨st.T,(d,⟨i.size,ys⟩) :: st.H⟩) else none
     | .own o off len=>match look st.H o with
      | some ob=>if ((len + ys.length:Nat):Int) ≤ most ∧ (((len + ys.length) * i.bytes:Nat):Int) ≤ most ∧ o2 ≠ some o ∧ ob.sz = i.size ∧ o < 700000 then
        some (.own o 0 (len + ys.length),⟨purge o st.T,setH o ⟨i.size,(ob.els.drop off).take len ++ ys⟩ st.H⟩) else none
      | none=>none
     | _=>none
    else none
   | none=>none
  | none=>none
 | _=>none
theorem run_append_none {P:Program} {w:World} {t ty e:TypeId} {i:TypeInfo} (ht:P.underlying t = some (.slice e)) (hi:P.info? e = some i) (b a:Option Addr) (sl sc c:Nat) (h:sl ≤ sc) :
  (Builtin.append_ #[t,t] ty #[.slice b sl sc,.slice a 0 c]).run P w = .ok (.slice b sl sc) w:=by
 have hf:(Builtin.firstCells i.size 0 (.slice a 0 c)).run P w = .ok #[] w:=by
  cases a <;> simp [Builtin.firstCells,loadCells,loadCellsFrom]
 cases b <;> simp [Builtin.append_,run_underlying ht,sizeOf,typeInfo,hi,Builtin.lenOf,h,hf,storeCells]
theorem run_append_room' {P:Program} {w:World} (t ty e:TypeId) (i:TypeInfo) (ht:P.underlying t = some (.slice e)) (hi:P.info? e = some i)
  (g bo sLen sCap:Nat) (cur:Array Value) (te:TypeId) (hg:w.heap[g]? = some (.cells cur te (0,0)))
  (a:Addr) (m c:Nat) (news:List Value) (hl:news.length = m * i.size) (hnews:∀ j u,news[j]? = some u → w.cell? (a.add j) = some u) (h1:∀ u ∈ news,u.oneCell' = true)
  (hroom:sLen + m ≤ sCap) (hfit:bo + sLen * i.size + news.length ≤ cur.size) :
  (Builtin.append_ #[t,t] ty #[.slice (some ⟨g,bo,none⟩) sLen sCap,.slice (some a) m c]).run P w =
   .ok (.slice (some ⟨g,bo,none⟩) (sLen + m) sCap) (w.setRow g (cur.toList.take (bo + sLen * i.size) ++ news ++ cur.toList.drop (bo + sLen * i.size + news.length)).toArray):=by
 have hf:=run_firstCells_some (P:=P) w i.size m a m c news hl hnews
 have hst:=run_storeCells_at P g (bo + sLen * i.size) te news 0 cur w hg (by simpa using hfit) h1
 simp only [Nat.add_zero] at hst
 simp [Builtin.append_,run_underlying ht,sizeOf,typeInfo,hi,Builtin.lenOf,hroom,hf,add_plain,hst]
theorem srcA_rep {F:Nat → Prop} {ρ:Locs} {H:List (Nat × Obj)} {w:World} (hobj:∀ id ob L,look H id = some ob → ρ id = some L → ObjRep F w ob L)
  {x:AV} {v:Value} {ys:List (List IV)} {o2:Option Nat} (h:RepA F ρ w x v) (hs:srcA H x = some (ys,o2)) {sz:Nat} (hl:allLen sz ys = true) :
  (ys = [] ∧ ∃ a c,v = .slice a 0 c) ∨ ∃ b off c,v = .slice (some ⟨b,off,none⟩) ys.length c ∧ ElsAt F w b off sz ys:=by
 have hl':=allLen_spec hl
 cases h with
 | i x v h =>
  cases x with
  | sl els =>
   obtain ⟨rfl,rfl⟩:=Prod.mk.inj (Option.some.inj hs)
   rcases h.sl_inv with ⟨rfl,a,c,rfl⟩ | ⟨b,off,c,sz',rfl,hF,hlc,hsz,hc⟩
   ·exact .inl ⟨rfl,a,c,rfl⟩
   ·refine .inr ⟨b,off,c,rfl,hl',fun i el he=>?_⟩
    obtain rfl:sz' = sz:=(hsz el (List.mem_of_getElem? he)).symm.trans (hl' el (List.mem_of_getElem? he))
    exact hc i el he
  | raw u =>
   cases h with | raw _ _ =>
   cases v with
   | slice ad n c =>
    cases n with
    | zero=>obtain ⟨rfl,rfl⟩:=Prod.mk.inj (Option.some.inj hs); exact .inl ⟨rfl,ad,c,rfl⟩
    | succ n=>simp [srcA] at hs
   | _=>simp [srcA] at hs
  | _=>simp [srcA] at hs
 | esl a =>
  obtain ⟨rfl,rfl⟩:=Prod.mk.inj (Option.some.inj hs)
  exact .inl ⟨rfl,a,0,rfl⟩
 | own o off len c L ho hm hlc hN =>
  simp only [srcA] at hs
  split at hs <;> (try (simp at hs; done))
  rename_i ob hob
  obtain ⟨rfl,rfl⟩:=Prod.mk.inj (Option.some.inj hs)
  have hr:=hobj o ob L hob ho
  have hlen:((ob.els.drop off).take len).length = len:=by have:=hr.m; simp; omega
  refine .inr ⟨L.b,L.base + off * L.sz,c,by rw [hlen],hl',fun i el he=>?_⟩
  rw [List.getElem?_take] at he
  split at he
  ·rw [List.getElem?_drop] at he
   have hc:=hr.cells he
   obtain rfl:L.sz = sz:=hr.sz.trans ((hr.len el (List.mem_of_getElem? he)).symm.trans (hl' el (List.mem_of_getElem? (i:=i) (by rw [List.getElem?_take,if_pos (by assumption),List.getElem?_drop]; exact he))))
   rwa [Nat.add_mul,← Nat.add_assoc] at hc
  ·simp at he
 | ownE o off a =>
  simp only [srcA] at hs
  split at hs <;> (try (simp at hs; done))
  obtain ⟨rfl,rfl⟩:=Prod.mk.inj (Option.some.inj hs)
  exact .inl ⟨by simp,a,0,rfl⟩
 | agg=>simp [srcA] at hs
 | tup=>simp [srcA] at hs
 | ptr=>simp [srcA] at hs
 | fn=>simp [srcA] at hs
 | dead=>simp [srcA] at hs
 | pin=>simp [srcA] at hs
 | cell=>simp [srcA] at hs
theorem execOp_append (ρ:Operand → Value) (o:Oper) (s x:Operand) (t:TypeId) (h:o.op = .call { callee:=.builtin .append,args:=#[s,x],argTypes:=#[t,t] }) {P:Program} {w w':World} {v:Value}
  (hr:(Builtin.append_ #[t,t] o.type #[ρ s,ρ x]).run P w = .ok v w'):(execOp ρ o).run P w = .ok (.value v) w':=by
 rw [execOp_builtin' ρ o .append _ _ h]
 have e:Array.map ρ #[s,x] = #[ρ s,ρ x]:=by simp
 rw [e]
 simp only [builtin,Sem.run_bind,hr,Result.andThen_ok,Sem.run_pure]
theorem tk_P {E:Env} (hE:E.Ok) {t e:TypeId} (h:tkOf E t = some (.slice e)):E.P.underlying t = some (.slice e):=by
 obtain ⟨i,hi,hk⟩:=Option.map_eq_some_iff.1 h
 obtain ⟨d,h1,h2,-⟩:=(hE.ty t i hi).und
 rw [hk] at h2
 cases d <;> simp [TK.fits] at h2
 rw [h1,h2]
theorem zeroCells_size (z:Array Value) (n:Nat):(Builtin.zeroCells z n).size = n * z.size:=by simp [Builtin.zeroCells]
theorem grown_cells {F:Nat → Prop} {w:World} {sz:Nat} {olds news rest:List Value} {els ys:List (List IV)}
  (ho1:olds.length = els.length * sz) (ho2:∀ (i:Nat) (el:List IV) (j:Nat) (x:IV),els[i]? = some el → el[j]? = some x → ∃ u,olds[i * sz + j]? = some u ∧ Rep F w x u)
  (hn2:∀ (i:Nat) (el:List IV) (j:Nat) (x:IV),ys[i]? = some el → el[j]? = some x → ∃ u,news[i * sz + j]? = some u ∧ Rep F w x u)
  (hl:∀ el ∈ els,el.length = sz) (e:Nat) (el:List IV) (j:Nat) (x:IV) (he:(els ++ ys)[e]? = some el) (hx:el[j]? = some x) :
  ∃ u,(olds.toArray ++ news.toArray ++ rest.toArray)[e * sz + j]? = some u ∧ Rep F w x u:=by
 rw [List.getElem?_append] at he
 have key:∀ (p:Nat) (u:Value),(olds ++ news ++ rest)[p]? = some u → (olds.toArray ++ news.toArray ++ rest.toArray)[p]? = some u:=by
  intro p u h; simpa using h
 split at he
 ·rename_i hel
  obtain ⟨u,hu,hr⟩:=ho2 e el j x he hx
  refine ⟨u,key _ _ ?_,hr⟩
  have:=(List.getElem?_eq_some_iff.1 hu).1
  rw [List.append_assoc,List.getElem?_append,if_pos this]; exact hu
 ·rename_i hel
  obtain ⟨u,hu,hr⟩:=hn2 (e - els.length) el j x he hx
  refine ⟨u,key _ _ ?_,hr⟩
  have h1:=(List.getElem?_eq_some_iff.1 hu).1
  have h2:e * sz + j - olds.length = (e - els.length) * sz + j:=by
   rw [ho1,Nat.sub_mul]
   have:=Nat.mul_le_mul_right sz (show els.length ≤ e by omega)
   omega
  have h3:olds.length ≤ e * sz + j:=by
   rw [ho1]; have:=Nat.mul_le_mul_right sz (show els.length ≤ e by omega); omega
  rw [List.append_assoc,List.getElem?_append,if_neg (by omega),h2,List.getElem?_append,if_pos h1]; exact hu
theorem Fit.regrow {w0:Base} {F0:Nat → Prop} {n:Nat} {st:St} {a:Act} {w w':World} {F:Nat → Prop} {ρ:Locs} (h:Fit w0 F0 n st a w F ρ) {id d:Nat} {ob nob:Obj} {l:Option Loc} {r:AV} {cv:Value}
  (hob:look st.H id = some ob) (hid:id < 700000) (hdn:d < n) (hb:w0.Kept w') (hsz:w.heap.size ≤ w'.heap.size) (hFw:∀ b,F b → w'.heap[b]? = w.heap[b]?)
  (hoth:∀ o' ob' L1,o' ≠ id → look st.H o' = some ob' → ρ o' = some L1 → w'.heap[L1.b]? = w.heap[L1.b]?)
  (hl:∀ L',l = some L' → ObjRep F w' nob L' ∧ w0.mine L'.b ∧ ¬ F L'.b ∧ ∀ o' ob' L1,o' ≠ id → look st.H o' = some ob' → ρ o' = some L1 → L1.b ≠ L'.b)
  (hsm:nob.els ≠ [] → l.isSome = true) (hv:RepA F (fun o=>if o = id then l else ρ o) w' r cv) :
  Fit w0 F0 n ⟨(d,r) :: purge id st.T,setH id nob st.H⟩ (a.put (some d) cv) w' F (fun o=>if o = id then l else ρ o):=by
 have hlk:=fun t=>look_setH id nob st.H t (by rw [hob]; rfl)
 refine ⟨⟨hb,by rw [put_defers']; exact h.defers,by rw [put_size']; exact h.size,h.sub,h.sup,fun b hb'=>Nat.lt_of_lt_of_le (h.lt b hb') hsz, ?_,⟨fun o' ob' L' ho' hL'=>?_,fun o' ob' ho' hne=>?_,fun o1 o2 ob1 ob2 L1 L2 h1 h2 g1 g2 hbb=>?_⟩⟩,fun o' L' hL'=>?_,fun o' h7 ho'=>?_⟩
 ·refine fit_tmps (dst:=some d) (T:=purge id st.T) (fun t u hu=>?_) hv (fun d' hd'=>by obtain rfl:=Option.some.inj hd'; rw [h.size]; exact hdn)
  rcases look_purge id st.T t u hu with rfl | ⟨h1,h2⟩
  ·exact .dead _
  ·refine (h.tmps t u h1).away (fun _ h=>h) hFw fun o' L' hm hL'=>?_
   rw [if_neg (fun (e:o' = id)=>h2 (e ▸ hm))]; exact hL'
 ·simp only at ho'
  rw [hlk] at ho'
  by_cases heq:id = o'
  ·subst heq
   rw [if_pos rfl] at ho' hL'
   obtain rfl:=Option.some.inj ho'
   obtain ⟨q1,q2,q3,-⟩:=hl L' hL'
   exact ⟨q1,q2,q3⟩
  ·rw [if_neg heq] at ho'
   rw [if_neg (fun e=>heq e.symm)] at hL'
   obtain ⟨q1,q2,q3⟩:=h.heap.obj o' ob' L' ho' hL'
   exact ⟨q1.mono (fun _ h=>h) hFw (hoth o' ob' L' (fun e=>heq e.symm) ho' hL'),q2,q3⟩
 ·simp only at ho'
  rw [hlk] at ho'
  by_cases heq:id = o'
  ·subst heq
   rw [if_pos rfl] at ho' ⊢
   obtain rfl:=Option.some.inj ho'
   exact hsm hne
  ·rw [if_neg heq] at ho'
   rw [if_neg (fun e=>heq e.symm)]
   exact h.heap.sm o' ob' ho' hne
 ·simp only at h1 h2
  rw [hlk] at h1 h2
  by_cases e1:id = o1 <;> by_cases e2:id = o2
  ·omega
  ·subst e1
   rw [if_pos rfl] at g1
   rw [if_neg e2] at h2
   rw [if_neg (fun e=>e2 e.symm)] at g2
   exact absurd hbb.symm ((hl L1 g1).2.2.2 o2 ob2 L2 (fun e=>e2 e.symm) h2 g2)
  ·subst e2
   rw [if_pos rfl] at g2
   rw [if_neg e1] at h1
   rw [if_neg (fun e=>e1 e.symm)] at g1
   exact absurd hbb ((hl L2 g2).2.2.2 o1 ob1 L1 (fun e=>e1 e.symm) h1 g1)
  ·rw [if_neg e1] at h1; rw [if_neg e2] at h2
   rw [if_neg (fun e=>e1 e.symm)] at g1
   rw [if_neg (fun e=>e2 e.symm)] at g2
   exact h.heap.apart o1 o2 ob1 ob2 L1 L2 h1 h2 g1 g2 hbb
 ·simp only
  rw [hlk]
  split
  ·rfl
  ·rename_i heq
   rw [if_neg (fun (e:o' = id)=>heq e.symm)] at hL'
   exact h.dom o' L' hL'
 ·simp only at ho'
  rw [hlk] at ho'
  have hne:¬ id = o':=by omega
  rw [if_neg hne] at ho'
  rw [if_neg (fun e=>hne e.symm)]
  exact h.pin o' h7 ho'
theorem appendA_wp {E:Env} (hE:E.Ok) {w0:Base} {F0:Nat → Prop} {n:Nat} {st st':St} {a:Act} {w:World} {F:Nat → Prop} {ρ:Locs} (hx:Ctx E w0 F0) (h:Fit w0 F0 n st a w F ρ)
  {o:Oper} {t:TypeId} {s x:Operand} {d:Nat} (hop:o.op = .call { callee:=.builtin .append,args:=#[s,x],argTypes:=#[t,t] }) (hd:o.dst = some d) (hdn:d < n) {vs vx r:AV}
  (hvs:evA E st.T s = some vs) (hvx:evA E st.T x = some vx) (hs:appendA E st d t vs vx = some (r,st')) (Q:Exit → Act → World → Prop) :
  o.wp E.P a w (Fits w0 F0 n ⟨(d,r) :: st'.T,st'.H⟩) Q:=by
 have hp:=h.pre hx o
 have hS:=hp.ev (x:=s) (by rw [hop]; simp [Op.operands,Call.operands]) hvs
 have hX:=hp.ev (x:=x) (by rw [hop]; simp [Op.operands,Call.operands]) hvx
 unfold appendA at hs
 split at hs <;> (try (simp at hs; done))
 rename_i e hk
 split at hs <;> (try (simp at hs; done))
 rename_i i hi
 split at hs <;> (try (simp at hs; done))
 rename_i ys o2 hsrc
 split at hs <;> (try (simp at hs; done))
 rename_i hcond
 obtain ⟨hz0,hzl,hall⟩:=hcond
 have hsz:0 < i.size:=by rw [← hzl]; exact List.length_pos_iff.2 hz0
 have ht:=tk_P hE hk
 obtain ⟨inf,g1,g2,g3,g4⟩:=(hE.ty _ _ hi).info
 obtain ⟨g5,z,g6,g7⟩:=g4 hz0
 have hzs:z.cells.size = i.size:=by rw [g7]; simp [hzl]
 have hsrc':=srcA_rep hp.obj hX hsrc hall
 have hyl:=allLen_spec hall
 split at hs <;> (try (simp at hs; done))
 ·-- nothing yet
  split at hs <;> (try (simp at hs; done))
  rename_i hb
  obtain ⟨rfl,rfl⟩:=Prod.mk.inj (Option.some.inj hs)
  obtain ⟨hb1,hb2,hb3,hb7⟩:=hb
  unfold most at hb1 hb2
  generalize hse:a.eval s = sv at hS
  cases hS with | esl ab =>
  have hfresh:∀ o',(look [(d,(⟨i.size,ys⟩:Obj))] o').isSome = true → look st.H o' = none ∧ o' < 700000:=by
   intro o' ho'
   simp only [look_cons,look_nil] at ho'
   split at ho'
   ·rename_i hdo; subst hdo; exact ⟨by simpa using hb3,hb7⟩
   ·simp at ho'
  rcases hsrc' with ⟨rfl,xa,xc,hxe⟩ | ⟨b,off,c,hxe,hels⟩
  ·refine wp_value (execOp_append a.eval o s x t hop (by rw [hse,hxe]; exact run_append_none ht g1 ab xa 0 0 xc (Nat.le_refl _))) ?_
   rw [hd]
   refine ⟨F,ρ,h.post (v:=.own d 0 0) (frs:=[(d,⟨i.size,[]⟩)]) (dst:=some d) ⟨Below.refl _ _,fun _ h=>h,fun _ h=>.inl h,h.lt,.ownE _ _ _,fun _ _=>rfl,fun o' ob L ho' hL=>?_,fun o' ob ho' hne=>?_,fun o1 o2 ob1 ob2 L1 L2 h1 h2 _ _ _=>?_⟩ hfresh (fun d' hd'=>by obtain rfl:=Option.some.inj hd'; exact hdn)⟩
   ·have h1:=(hfresh o' (by rw [ho']; rfl)).1
    have h2:=h.dom o' L hL
    rw [h1] at h2; simp at h2
   ·simp only [look_cons,look_nil] at ho'
    split at ho'
    ·obtain rfl:=Option.some.inj ho'; exact absurd rfl hne
    ·simp at ho'
   ·simp only [look_cons,look_nil] at h1 h2
    split at h1 <;> split at h2 <;> simp_all
  ·obtain ⟨news,n1,n2,n3⟩:=hels.values hsz
   by_cases hy0:ys.length = 0
   ·-- no element at an address
    have hy:ys = []:=List.eq_nil_of_length_eq_zero hy0
    subst hy
    refine wp_value (execOp_append a.eval o s x t hop (by rw [hse,hxe]; exact run_append_none ht g1 ab _ 0 0 c (Nat.le_refl _))) ?_
    rw [hd]
    refine ⟨F,ρ,h.post (v:=.own d 0 0) (frs:=[(d,⟨i.size,[]⟩)]) (dst:=some d) ⟨Below.refl _ _,fun _ h=>h,fun _ h=>.inl h,h.lt,.ownE _ _ _,fun _ _=>rfl,fun o' ob L ho' hL=>?_,fun o' ob ho' hne=>?_,fun o1 o2 ob1 ob2 L1 L2 h1 h2 _ _ _=>?_⟩ hfresh (fun d' hd'=>by obtain rfl:=Option.some.inj hd'; exact hdn)⟩
    ·have h1:=(hfresh o' (by rw [ho']; rfl)).1
     have h2:=h.dom o' L hL
     rw [h1] at h2; simp at h2
    ·simp only [look_cons,look_nil] at ho'
     split at ho'
     ·obtain rfl:=Option.some.inj ho'; exact absurd rfl hne
     ·simp at ho'
    ·simp only [look_cons,look_nil] at h1 h2
     split at h1 <;> split at h2 <;> simp_all
   ·have hrun:∃ cap,ys.length ≤ cap ∧ (Builtin.append_ #[t,t] o.type #[a.eval s,a.eval x]).run E.P w =
      .ok (.slice (some ⟨w.heap.size,0,none⟩) ys.length cap) (w.drew.alloc (.cells (([]:List Value).toArray ++ news.toArray ++ (Builtin.zeroCells z.cells (cap - ys.length)).toList.toArray) e)):=by
     rw [hse,hxe]
     have hbytes:ys.length * inf.bytes ≤ 140737488355328:=by rw [g3]; omega
     cases ab with
     | none =>
      have:=run_append_nil (P:=E.P) w t o.type e inf z ht g1 g6 ⟨b,off,none⟩ ys.length c news (by rw [g2]; exact n1) (fun j u hu=>by rw [add_plain]; exact n2 j u hu) (by omega) (by omega) (by omega)
      exact ⟨_,grownCap_ge w _ _ _,by simpa using this⟩
     | some ad =>
      have:=run_append_grow (P:=E.P) w t o.type e inf z ht g1 g6 ad 0 0 [] (by simp) (by simp) ⟨b,off,none⟩ ys.length c news (by rw [g2]; exact n1) (fun j u hu=>by rw [add_plain]; exact n2 j u hu) (by omega) (by omega) (growslice_fits (by omega) (by rw [Nat.zero_add]; exact hbytes))
      refine ⟨grownCap w (0 + ys.length) 0 e,by have:=grownCap_ge w (0 + ys.length) 0 e; omega, ?_⟩
      simpa using this
    obtain ⟨cap,hcap,hrun⟩:=hrun
    refine wp_value (execOp_append a.eval o s x t hop hrun) ?_
    rw [hd]
    have hcsz:(([]:List Value).toArray ++ news.toArray ++ (Builtin.zeroCells z.cells (cap - ys.length)).toList.toArray).size = cap * i.size:=by
     simp only [Array.size_append,List.size_toArray,List.length_nil,n1,Array.length_toList,zeroCells_size,hzs,Nat.sub_mul]
     have:=Nat.mul_le_mul_right i.size hcap
     omega
    have hpost:=Post.fresh (F:=F) (ρ:=ρ) (w:=w) (w1:=w.drew) (els:=ys) (sz:=i.size) (d:=d) (ty:=e) (v:=.own d 0 ys.length) (cv:=.slice (some ⟨w.heap.size,0,none⟩) ys.length cap)
     (cs:=([]:List Value).toArray ++ news.toArray ++ (Builtin.zeroCells z.cells (cap - ys.length)).toList.toArray) rfl (Below.refl _ _).drew h.lt hyl (by rw [hcsz]; exact Nat.mul_le_mul_right _ hcap)
     (fun e' el j x he hx=>grown_cells (els:=[]) (by simp) (by simp) n3 (by simp) e' el j x (by simpa using he) hx)
     (fun ρ' hd'=>by
      have:=RepA.own (F:=F) (w:={ w.drew with heap:=w.drew.heap.push (.cells (([]:List Value).toArray ++ news.toArray ++ (Builtin.zeroCells z.cells (cap - ys.length)).toList.toArray) e (0,0)) }) d 0 ys.length cap _ hd' (by simp) hcap (by simp only [Nat.zero_add,hcsz]; exact Nat.le_refl _)
      simpa using this)
    exact ⟨F,_,h.post (dst:=some d) hpost hfresh (fun d' hd'=>by obtain rfl:=Option.some.inj hd'; exact hdn)⟩
 ·-- an object of one's own
  rename_i id off len
  split at hs <;> (try (simp at hs; done))
  rename_i ob hob
  split at hs <;> (try (simp at hs; done))
  rename_i hb
  obtain ⟨rfl,rfl⟩:=Prod.mk.inj (Option.some.inj hs)
  obtain ⟨hb1,hb2,hb3,hb4,hb7⟩:=hb
  unfold most at hb1 hb2
  generalize hse:a.eval s = sv at hS
  have hbytes:(len + ys.length) * inf.bytes ≤ 140737488355328:=by rw [g3]; omega
  have hblt:∀ o' ob' L1,look st.H o' = some ob' → ρ o' = some L1 → L1.b < w.heap.size:=by
   intro o' ob' L1 ho' hL
   obtain ⟨cs,ty,h3,-⟩:=(h.heap.obj o' ob' L1 ho' hL).1.at_
   exact (Array.getElem?_eq_some_iff.1 h3).1
  have hnew:∀ (cells:Array Value) (cap:Nat),len + ys.length ≤ cap → cells.size = cap * i.size → ((ob.els.drop off).take len).length = len → (∀ el ∈ (ob.els.drop off).take len,el.length = i.size) →
    (∀ (e':Nat) (el:List IV) (j:Nat) (x:IV),((ob.els.drop off).take len ++ ys)[e']? = some el → el[j]? = some x → ∃ u,cells[e' * i.size + j]? = some u ∧ Rep F w x u) →
    (Builtin.append_ #[t,t] o.type #[a.eval s,a.eval x]).run E.P w = .ok (.slice (some ⟨w.heap.size,0,none⟩) (len + ys.length) cap) (w.drew.alloc (.cells cells e)) →
    o.wp E.P a w (Fits w0 F0 n ⟨(d,.own id 0 (len + ys.length)) :: purge id st.T,setH id ⟨i.size,(ob.els.drop off).take len ++ ys⟩ st.H⟩) Q:=by
   intro cells cap hcap hcs hlen hels hcell hrun
   refine wp_value (execOp_append a.eval o s x t hop hrun) ?_
   rw [hd]
   have hold:∀ b,b < w.heap.size → (w.drew.alloc (.cells cells e)).heap[b]? = w.heap[b]?:=fun b hb'=>Below.heap_alloc w.drew _ b hb'
   have hFw:∀ b,F b → (w.drew.alloc (.cells cells e)).heap[b]? = w.heap[b]?:=fun b hb'=>hold b (h.lt b hb')
   refine ⟨F,_,h.regrow (l:=some ⟨w.heap.size,0,i.size,cells.size,len + ys.length⟩) hob hb7 hdn (h.below.below ((Below.refl w.heap.size w).drew.alloc (Nat.le_refl _) _)) (by show w.heap.size ≤ (w.drew.heap.push _).size; rw [Array.size_push]; exact Nat.le_succ _) hFw (fun o' ob' L1 _ ho' hL=>hold _ (hblt o' ob' L1 ho' hL)) (fun L' hL'=>?_) (fun _=>rfl) ?_⟩
   ·obtain rfl:=Option.some.inj hL'
    refine ⟨⟨rfl,by simp only [List.length_append,hlen],fun el hel=>?_, ?_,cells,e, ?_,rfl,fun e' el j x he hx=>?_⟩,.inl h.below.size,fun hF=>absurd (h.lt _ hF) (Nat.lt_irrefl _),fun o' ob' L1 _ ho' hL=>Nat.ne_of_lt (hblt o' ob' L1 ho' hL)⟩
    ·rcases List.mem_append.1 hel with hel | hel
     ·exact hels el hel
     ·exact hyl el hel
    ·simp only [List.length_append,hlen,hcs,Nat.zero_add]
     exact Nat.mul_le_mul_right _ hcap
    ·exact Array.getElem?_push_size
    ·obtain ⟨u,hu,hr⟩:=hcell e' el j x he hx
     exact ⟨u,by simpa using hu,hr.mono (fun _ h=>h) hFw⟩
   ·have:=RepA.own (F:=F) (w:=w.drew.alloc (.cells cells e)) (ρ:=fun o=>if o = id then some ⟨w.heap.size,0,i.size,cells.size,len + ys.length⟩ else ρ o) id 0 (len + ys.length) cap _ (if_pos rfl) (by simp) hcap (by simp only [Nat.zero_add,hcs]; exact Nat.le_refl _)
    simpa using this
  cases hS with
  | ownE _ _ ab =>
   have hn0:(ob.els.drop off).take 0 = []:=rfl
   rcases hsrc' with ⟨rfl,xa,xc,hxe⟩ | ⟨b,off',c',hxe,hels⟩
   ·refine wp_value (execOp_append a.eval o s x t hop (by rw [hse,hxe]; exact run_append_none ht g1 ab xa 0 0 xc (Nat.le_refl _))) ?_
    rw [hd]
    exact ⟨F,_,h.regrow (l:=none) hob hb7 hdn h.below (Nat.le_refl _) (fun _ _=>rfl) (fun _ _ _ _ _ _=>rfl) (fun L' hL'=>by simp at hL') (fun hne=>by simp at hne) (.ownE _ _ _)⟩
   ·obtain ⟨news,n1,n2,n3⟩:=hels.values hsz
    by_cases hy0:ys.length = 0
    ·have hy:ys = []:=List.eq_nil_of_length_eq_zero hy0
     subst hy
     refine wp_value (execOp_append a.eval o s x t hop (by rw [hse,hxe]; exact run_append_none ht g1 ab _ 0 0 c' (Nat.le_refl _))) ?_
     rw [hd]
     exact ⟨F,_,h.regrow (l:=none) hob hb7 hdn h.below (Nat.le_refl _) (fun _ _=>rfl) (fun _ _ _ _ _ _=>rfl) (fun L' hL'=>by simp at hL') (fun hne=>by simp at hne) (.ownE _ _ _)⟩
    ·have hrun:∃ cap,0 + ys.length ≤ cap ∧ (Builtin.append_ #[t,t] o.type #[a.eval s,a.eval x]).run E.P w =
       .ok (.slice (some ⟨w.heap.size,0,none⟩) (0 + ys.length) cap) (w.drew.alloc (.cells (([]:List Value).toArray ++ news.toArray ++ (Builtin.zeroCells z.cells (cap - ys.length)).toList.toArray) e)):=by
      rw [hse,hxe]
      cases ab with
      | none =>
       have hb':=hbytes
       rw [Nat.zero_add] at hb'
       have:=run_append_nil (P:=E.P) w t o.type e inf z ht g1 g6 ⟨b,off',none⟩ ys.length c' news (by rw [g2]; exact n1) (fun j u hu=>by rw [add_plain]; exact n2 j u hu) (by omega) (by omega) (by omega)
       have hge:=grownCap_ge w ys.length 0 e
       exact ⟨_,by rw [Nat.zero_add]; exact hge,by simpa using this⟩
      | some ad =>
       have:=run_append_grow (P:=E.P) w t o.type e inf z ht g1 g6 ad 0 0 [] (by simp) (by simp) ⟨b,off',none⟩ ys.length c' news (by rw [g2]; exact n1) (fun j u hu=>by rw [add_plain]; exact n2 j u hu) (by omega) (by omega) (growslice_fits (by omega) hbytes)
       refine ⟨grownCap w (0 + ys.length) 0 e,grownCap_ge w (0 + ys.length) 0 e, ?_⟩
       simpa using this
     obtain ⟨cap,hcap,hrun⟩:=hrun
     refine hnew _ cap hcap ?_ (by simp) (by simp) (fun e' el j x he hx=>grown_cells (els:=[]) (by simp) (by simp) n3 (by simp) e' el j x (by simpa using he) hx) hrun
     simp only [Array.size_append,List.size_toArray,List.length_nil,n1,Array.length_toList,zeroCells_size,hzs,Nat.sub_mul]
     have:=Nat.mul_le_mul_right i.size hcap
     rw [Nat.zero_add] at this
     omega
  | own _ _ _ c L ho hm hlc hN =>
   obtain ⟨hor,hB,hnF⟩:=h.heap.obj id ob L hob ho
   have hLsz:L.sz = i.size:=hor.sz.trans hb4
   have hlen:((ob.els.drop off).take len).length = len:=by have:=hor.m; simp; omega
   have hoel:∀ el ∈ (ob.els.drop off).take len,el.length = i.size:=fun el he=>by rw [hor.len el (List.mem_of_mem_drop (List.mem_of_mem_take he)),hb4]
   have holds:ElsAt F w L.b (L.base + off * L.sz) i.size ((ob.els.drop off).take len):=⟨hoel,fun q el he=>by
    rw [List.getElem?_take] at he
    split at he
    ·rw [List.getElem?_drop] at he
     have hc:=hor.cells he
     rw [Nat.add_mul,← Nat.add_assoc] at hc
     rw [← hLsz]; exact hc
    ·simp at he⟩
   have hself:∀ (w':World) (cs:Array Value) (ty:TypeId) (m:Nat) (els:List (List IV)),(∀ b,F b → w'.heap[b]? = w.heap[b]?) → w'.heap[L.b]? = some (.cells cs ty (0,0)) → cs.size = L.N → els.length = m → m ≤ c → (∀ el ∈ els,el.length = i.size) →
     (∀ (e':Nat) (el:List IV) (j:Nat) (x:IV),els[e']? = some el → el[j]? = some x → ∃ u,cs[L.base + off * L.sz + e' * L.sz + j]? = some u ∧ Rep F w' x u) →
     ObjRep F w' ⟨i.size,els⟩ ⟨L.b,L.base + off * L.sz,L.sz,L.N,m⟩:=by
    intro w' cs ty m els _ h1 h2 h3 hmc h4 h5
    refine ⟨hLsz,h3.symm,h4, ?_,cs,ty,h1,h2,h5⟩
    simp only [h3]
    rw [← hLsz,Nat.add_assoc,← Nat.add_mul]
    exact Nat.le_trans (Nat.add_le_add_left (Nat.mul_le_mul_right _ (by omega)) _) hN
   have hap:∀ o' ob' L1,o' ≠ id → look st.H o' = some ob' → ρ o' = some L1 → L1.b ≠ L.b:=fun o' ob' L1 hne ho' hL e=>hne (h.heap.apart o' id ob' ob L1 L ho' hob hL ho e)
   have hempty:ys = [] → (Builtin.append_ #[t,t] o.type #[a.eval s,a.eval x]).run E.P w = .ok (.slice (some ⟨L.b,L.base + off * L.sz,none⟩) len c) w → o.wp E.P a w (Fits w0 F0 n ⟨(d,.own id 0 (len + ys.length)) :: purge id st.T,setH id ⟨i.size,(ob.els.drop off).take len ++ ys⟩ st.H⟩) Q:=by
    intro hy hrun
    subst hy
    refine wp_value (execOp_append a.eval o s x t hop hrun) ?_
    rw [hd]
    obtain ⟨cs,ty,h5,h6,h7⟩:=hor.at_
    refine ⟨F,_,h.regrow (l:=some ⟨L.b,L.base + off * L.sz,L.sz,L.N,len⟩) hob hb7 hdn h.below (Nat.le_refl _) (fun _ _=>rfl) (fun _ _ _ _ _ _=>rfl) (fun L' hL'=>?_) (fun _=>rfl) ?_⟩
    ·obtain rfl:=Option.some.inj hL'
     refine ⟨hself w cs ty len _ (fun _ _=>rfl) h5 h6 (by simp only [List.append_nil,hlen]) hlc (by simpa using hoel) (fun e' el j x he hx=>?_),hB,hnF,fun o' ob' L1 hne ho' hL=>hap o' ob' L1 hne ho' hL⟩
     rw [List.append_nil,List.getElem?_take] at he
     split at he
     ·rw [List.getElem?_drop] at he
      obtain ⟨u,hu,hr⟩:=h7 (off + e') el j x he hx
      rw [Nat.add_mul,← Nat.add_assoc] at hu
      exact ⟨u,hu,hr⟩
     ·simp at he
    ·have:=RepA.own (F:=F) (w:=w) (ρ:=fun o=>if o = id then some ⟨L.b,L.base + off * L.sz,L.sz,L.N,len⟩ else ρ o) id 0 len c _ (if_pos rfl) (by simp) hlc (by simp only [Nat.zero_add]; rw [Nat.add_assoc,← Nat.add_mul]; exact hN)
     simpa using this
   rcases hsrc' with ⟨hy,xa,xc,hxe⟩ | ⟨b,off',c',hxe,hels⟩
   ·exact hempty hy (by rw [hse,hxe]; exact run_append_none ht g1 _ xa len c xc hlc)
   ·by_cases hy0:ys.length = 0
    ·have hy:ys = []:=List.eq_nil_of_length_eq_zero hy0
     refine hempty hy (by rw [hse,hxe,hy0]; exact run_append_none ht g1 _ _ len c c' hlc)
    ·obtain ⟨news,n1,n2,n3⟩:=hels.values hsz
     by_cases hroom:len + ys.length ≤ c
     ·-- in place
      obtain ⟨cs,ty,h5,h6,h7⟩:=hor.at_
      have hone:∀ u ∈ news,u.oneCell' = true:=by
       intro u hu
       obtain ⟨q,hq⟩:=List.mem_iff_getElem?.1 hu
       have hql:q < ys.length * i.size:=by rw [← n1]; exact (List.getElem?_eq_some_iff.1 hq).1
       have hyq:q / i.size < ys.length:=Nat.div_lt_of_lt_mul (by rw [Nat.mul_comm]; exact hql)
       have hjq:q % i.size < ys[q / i.size].length:=by rw [hyl _ (List.getElem_mem hyq)]; exact Nat.mod_lt _ hsz
       obtain ⟨u',hu',hr⟩:=n3 (q / i.size) _ (q % i.size) _ (List.getElem?_eq_getElem hyq) (List.getElem?_eq_getElem hjq)
       rw [Nat.mul_comm,Nat.div_add_mod,hq] at hu'
       obtain rfl:=Option.some.inj hu'
       exact hr.oneCell
      have hfit:L.base + off * L.sz + len * inf.size + news.length ≤ cs.size:=by
       rw [n1,g2,h6,hLsz,Nat.add_assoc,Nat.add_assoc,← Nat.add_mul,← Nat.add_mul]
       rw [hLsz] at hN
       exact Nat.le_trans (Nat.add_le_add_left (Nat.mul_le_mul_right _ (by omega)) _) hN
      have hrun:=run_append_room' (P:=E.P) (w:=w) t o.type e inf ht g1 L.b (L.base + off * L.sz) len c cs ty h5 ⟨b,off',none⟩ ys.length c' news (by rw [g2]; exact n1) (fun j u hu=>by rw [add_plain]; exact n2 j u hu) hone hroom hfit
      have hget:=row_get cs (L.base + off * L.sz + len * inf.size) news hfit
      have hnsz:(cs.toList.take (L.base + off * L.sz + len * inf.size) ++ news ++ cs.toList.drop (L.base + off * L.sz + len * inf.size + news.length)).toArray.size = cs.size:=by
       simp; omega
      generalize (cs.toList.take (L.base + off * L.sz + len * inf.size) ++ news ++ cs.toList.drop (L.base + off * L.sz + len * inf.size + news.length)).toArray = new at hrun hget hnsz
      refine wp_value (execOp_append a.eval o s x t hop (by rw [hse,hxe]; exact hrun)) ?_
      rw [hd]
      have hFw:∀ b,F b → (w.setRow L.b new).heap[b]? = w.heap[b]?:=fun b hb'=>heap_setRow_ne w L.b new b (fun e=>hnF (e ▸ hb'))
      refine ⟨F,_,h.regrow (l:=some ⟨L.b,L.base + off * L.sz,L.sz,L.N,len + ys.length⟩) hob hb7 hdn (below_setRow h.below hB new) (by rw [size_setRow]; exact Nat.le_refl _) hFw (fun o' ob' L1 hne ho' hL=>heap_setRow_ne w L.b new _ (hap o' ob' L1 hne ho' hL)) (fun L' hL'=>?_) (fun _=>rfl) ?_⟩
      ·obtain rfl:=Option.some.inj hL'
       refine ⟨hself _ new ty (len + ys.length) _ hFw (heap_setRow w L.b new cs ty h5) (hnsz.trans h6) (by simp only [List.length_append,hlen]) hroom (fun el hel=>?_) (fun e' el j x he hx=>?_),hB,hnF,fun o' ob' L1 hne ho' hL=>hap o' ob' L1 hne ho' hL⟩
       ·rcases List.mem_append.1 hel with hel | hel
        ·exact hoel el hel
        ·exact hyl el hel
       ·rw [List.getElem?_append,hlen] at he
        split at he
        ·rename_i hel'
         rw [List.getElem?_take,if_pos hel',List.getElem?_drop] at he
         obtain ⟨u,hu,hr⟩:=h7 (off + e') el j x he hx
         rw [Nat.add_mul,← Nat.add_assoc] at hu
         refine ⟨u, ?_,hr.mono (fun _ h=>h) hFw⟩
         have hjl:j < i.size:=by rw [← hb4,← hor.len el (List.mem_of_getElem? he)]; exact (List.getElem?_eq_some_iff.1 hx).1
         rw [hget,if_neg]
         ·exact hu
         ·rw [g2,hLsz]
          have:=Nat.mul_le_mul_right i.size (show e' + 1 ≤ len by omega)
          rw [Nat.add_mul,Nat.one_mul] at this
          omega
        ·rename_i hel'
         obtain ⟨u,hu,hr⟩:=n3 (e' - len) el j x he hx
         have hul:=(List.getElem?_eq_some_iff.1 hu).1
         refine ⟨u, ?_,hr.mono (fun _ h=>h) hFw⟩
         have hsub:e' * i.size = len * i.size + (e' - len) * i.size:=by rw [← Nat.add_mul]; congr 1; omega
         rw [hget,g2,hLsz,if_pos (by rw [hsub]; omega)]
         rw [show L.base + off * i.size + e' * i.size + j - (L.base + off * i.size + len * i.size) = (e' - len) * i.size + j by rw [hsub]; omega]
         exact hu
      ·have:=RepA.own (F:=F) (w:=w.setRow L.b new) (ρ:=fun o=>if o = id then some ⟨L.b,L.base + off * L.sz,L.sz,L.N,len + ys.length⟩ else ρ o) id 0 (len + ys.length) c _ (if_pos rfl) (by simp) hroom (by simp only [Nat.zero_add]; rw [Nat.add_assoc,← Nat.add_mul]; exact hN)
       simpa using this
     ·-- a new block
      obtain ⟨olds,o1,o2',o3⟩:=holds.values hsz
      have hrun:=run_append_grow (P:=E.P) w t o.type e inf z ht g1 g6 ⟨L.b,L.base + off * L.sz,none⟩ len c olds (by rw [g2,o1,hlen]) (fun j u hu=>by rw [add_plain]; exact o2' j u hu) ⟨b,off',none⟩ ys.length c' news (by rw [g2]; exact n1) (fun j u hu=>by rw [add_plain]; exact n2 j u hu) (by omega) (by omega) (growslice_fits (by omega) hbytes)
      have hge:=grownCap_ge w (len + ys.length) c e
      refine hnew _ _ hge ?_ hlen hoel (fun e' el j x he hx=>?_) (by rw [hse,hxe]; exact hrun)
      ·simp only [Array.size_append,List.size_toArray,n1,o1,hlen,zeroCells_size,hzs,Nat.sub_mul]
       have:=Nat.mul_le_mul_right i.size hge
       rw [Nat.add_mul] at this ⊢
       omega
      ·have:=grown_cells (rest:=(Builtin.zeroCells z.cells (grownCap w (len + ys.length) c e - (len + ys.length))).toList) (by rw [o1,hlen]) o3 n3 hoel e' el j x he hx
       simpa [hlen] using this
end Go.Vai
