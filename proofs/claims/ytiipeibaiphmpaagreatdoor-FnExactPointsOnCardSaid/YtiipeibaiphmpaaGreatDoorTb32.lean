/- Texts of this claim: Zx1, Zx2, Zx5, Zx13. -/
import Derived.Test.YtiipeibaiphmpaaGreatDoorTv17
set_option linter.unusedVariables false
set_option linter.unusedSimpArgs false
namespace Go.Vai
structure Back (z:Base) (F0:Nat → Prop) (z':Base) (F0':Nat → Prop):Prop where
 kept:z.Kept z'.w
 mine:∀ b,z'.mine b → z.mine b
 sub:∀ b,F0 b → F0' b
 sup:∀ b,F0' b → F0 b ∨ z.mine b
 at_:∀ o,700000 ≤ o → z'.at_ o = z.at_ o
theorem Back.refl (z:Base) (F0:Nat → Prop):Back z F0 z F0:=⟨Base.Kept.refl z,fun _ h=>h,fun _ h=>h,fun _ h=>.inl h,fun _ _=>rfl⟩
theorem Base.Kept.trans_of {z z':Base} {w:World} (h:z.Kept z'.w) (hm:∀ b,z'.mine b → z.mine b) (k:z'.Kept w):z.Kept w :=
 ⟨k.os.trans h.os,k.tape.trans h.tape,k.output.trans h.output,Nat.le_trans h.size k.size,fun i hi=>by
  rw [k.block i fun hmi=>hi (hm i hmi)]; exact h.block i hi,Nat.le_trans h.drawn k.drawn⟩
theorem Back.trans {z z1 z2:Base} {F0 F1 F2:Nat → Prop} (a:Back z F0 z1 F1) (b:Back z1 F1 z2 F2):Back z F0 z2 F2 :=
 ⟨a.kept.trans_of a.mine b.kept,fun x h=>a.mine x (b.mine x h),fun x h=>b.sub x (a.sub x h),fun x h=>(b.sup x h).elim (a.sup x) fun h=>.inr (a.mine x h),fun o h=>(b.at_ o h).trans (a.at_ o h)⟩
theorem Back.fits {z z':Base} {F0 F0':Nat → Prop} (hb:Back z F0 z' F0') {n:Nat} {st:St} {a:Act} {w:World} (h:Fits z' F0' n st a w):Fits z F0 n st a w:=by
 obtain ⟨F,ρ,hf⟩:=h
 exact ⟨F,ρ,⟨⟨hb.kept.trans_of hb.mine hf.below,hf.defers,hf.size,fun b h=>hf.sub b (hb.sub b h),fun b h=>(hf.sup b h).elim (hb.sup b) fun h=>.inr (hb.mine b h),hf.lt,hf.tmps,
  ⟨fun o ob L h1 h2=>⟨(hf.heap.obj o ob L h1 h2).1,hb.mine _ (hf.heap.obj o ob L h1 h2).2.1,(hf.heap.obj o ob L h1 h2).2.2⟩,hf.heap.sm,hf.heap.apart⟩⟩,hf.dom,fun o h7 ho=>(hf.pin o h7 ho).trans (hb.at_ o h7)⟩⟩
theorem Fit.restart {E:Env} {z:Base} {F0:Nat → Prop} {n:Nat} {st:St} {a:Act} {w:World} {F:Nat → Prop} {ρ:Locs} (hx:Ctx E z F0) (h:Fit z F0 n st a w F ρ) :
  Ctx E ⟨w,Dm ρ st.H,z.at_⟩ F ∧ Fit ⟨w,Dm ρ st.H,z.at_⟩ F n st a w F ρ ∧ Back z F0 ⟨w,Dm ρ st.H,z.at_⟩ F:=by
 refine ⟨⟨hx.glob.mono h.sub fun b hb=>h.below.block b (hx.lt b hb),fun b hb hm=>?_⟩,⟨⟨Base.Kept.refl _,h.defers,h.size,fun _ h=>h,fun _ h=>.inl h,h.lt,h.tmps,⟨fun o ob L h1 h2=>?_,h.heap.sm,h.heap.apart⟩⟩,h.dom,h.pin⟩,⟨h.below,fun b hb=>?_,h.sub,h.sup,fun _ _=>rfl⟩⟩
 ·rcases hm with hm | ⟨o,ob,L,h1,h2,rfl⟩
  ·exact absurd (h.lt b hb) (Nat.not_lt.2 hm)
  ·exact (h.heap.obj o ob L h1 h2).2.2 hb
 ·exact ⟨(h.heap.obj o ob L h1 h2).1,.inr ⟨o,ob,L,h1,h2,rfl⟩,(h.heap.obj o ob L h1 h2).2.2⟩
 ·rcases hb with hb | ⟨o,ob,L,h1,h2,rfl⟩
  ·exact .inl (Nat.le_trans h.below.size hb)
  ·exact (h.heap.obj o ob L h1 h2).2.1
def cutC:Nat → Code → Code
 | 0,.seq a _=>a
 | k + 1,.seq a b=>.seq a (cutC k b)
 | _,c=>c
def restN:Nat → Code → Code
 | 0,.seq _ b=>b
 | k + 1,.seq _ b=>restN k b
 | _,_=>.skip
def seqsN:Nat → Code → Bool
 | 0,.seq _ _=>true
 | k + 1,.seq _ b=>seqsN k b
 | _,_=>false
theorem X_cut {E:Env} (hE:E.Ok) {n:Nat} {z:Base} {F0:Nat → Prop} (hx:Ctx E z F0) {Q1:Exit → St → Prop} {Q:Exit → Act → World → Prop}:∀ (k:Nat) (c:Code) (st:St) (a:Act) (w:World),seqsN k c = true → codeOk E.M n (cutC k c) = true → X E n (cutC k c) st Q1 →
  Fits z F0 n st a w → (∀ st' a' w',Q1 .normal st' → Fits z F0 n st' a' w' → (restN k c).wp E.P Q a' w') → (∀ e st' a' w',e ≠ .normal → Q1 e st' → Fits z F0 n st' a' w' → Q e a' w') → c.wp E.P Q a w
 | 0,.seq x y,st,a,w,_,hok,hX,hf,h1,h2=>by
  refine wp_seq (wp_mono (X_sound hE x st Q1 hok hX z F0 a w hx hf) ?_)
  rintro e a' w' ⟨s,hs,hf'⟩
  cases e with
  | normal=>exact h1 s a' w' hs hf'
  | ret=>exact h2 .ret s a' w' (by simp) hs hf'
  | exit i=>exact h2 (.exit i) s a' w' (by simp) hs hf'
  | goto i=>exact h2 (.goto i) s a' w' (by simp) hs hf'
  | panic c=>exact h2 (.panic c) s a' w' (by simp) hs hf'
  | outgrown=>exact h2 .outgrown s a' w' (by simp) hs hf'
 | k + 1,.seq x y,st,a,w,hs,hok,hX,hf,h1,h2=>by
  simp only [cutC,codeOk,Bool.and_eq_true] at hok
  have hX':X E n x st (thenX (fun s=>X E n (cutC k y) s Q1) Q1):=hX
  refine wp_seq (wp_mono (X_sound hE x st _ hok.1 hX' z F0 a w hx hf) ?_)
  rintro e a' w' ⟨s,hs',hf'⟩
  cases e with
  | normal=>exact X_cut hE hx k y s a' w' hs hok.2 hs' hf' h1 h2
  | ret=>exact h2 .ret s a' w' (by simp) hs' hf'
  | exit i=>exact h2 (.exit i) s a' w' (by simp) hs' hf'
  | goto i=>exact h2 (.goto i) s a' w' (by simp) hs' hf'
  | panic c=>exact h2 (.panic c) s a' w' (by simp) hs' hf'
  | outgrown=>exact h2 .outgrown s a' w' (by simp) hs' hf'
 | 0,.skip,st,a,w,hs,_,_,_,_,_=>by simp [seqsN] at hs
 | 0,.region ..,st,a,w,hs,_,_,_,_,_=>by simp [seqsN] at hs
 | 0,.cond ..,st,a,w,hs,_,_,_,_,_=>by simp [seqsN] at hs
 | 0,.block ..,st,a,w,hs,_,_,_,_,_=>by simp [seqsN] at hs
 | 0,.loop ..,st,a,w,hs,_,_,_,_,_=>by simp [seqsN] at hs
 | 0,.exit ..,st,a,w,hs,_,_,_,_,_=>by simp [seqsN] at hs
 | 0,.ret,st,a,w,hs,_,_,_,_,_=>by simp [seqsN] at hs
 | 0,.rangeFunc ..,st,a,w,hs,_,_,_,_,_=>by simp [seqsN] at hs
 | 0,.scope ..,st,a,w,hs,_,_,_,_,_=>by simp [seqsN] at hs
 | 0,.label ..,st,a,w,hs,_,_,_,_,_=>by simp [seqsN] at hs
 | 0,.goto ..,st,a,w,hs,_,_,_,_,_=>by simp [seqsN] at hs
 | 0,.refuse ..,st,a,w,hs,_,_,_,_,_=>by simp [seqsN] at hs
 | k + 1,.skip,st,a,w,hs,_,_,_,_,_=>by simp [seqsN] at hs
 | k + 1,.region ..,st,a,w,hs,_,_,_,_,_=>by simp [seqsN] at hs
 | k + 1,.cond ..,st,a,w,hs,_,_,_,_,_=>by simp [seqsN] at hs
 | k + 1,.block ..,st,a,w,hs,_,_,_,_,_=>by simp [seqsN] at hs
 | k + 1,.loop ..,st,a,w,hs,_,_,_,_,_=>by simp [seqsN] at hs
 | k + 1,.exit ..,st,a,w,hs,_,_,_,_,_=>by simp [seqsN] at hs
 | k + 1,.ret,st,a,w,hs,_,_,_,_,_=>by simp [seqsN] at hs
 | k + 1,.rangeFunc ..,st,a,w,hs,_,_,_,_,_=>by simp [seqsN] at hs
 | k + 1,.scope ..,st,a,w,hs,_,_,_,_,_=>by simp [seqsN] at hs
 | k + 1,.label ..,st,a,w,hs,_,_,_,_,_=>by simp [seqsN] at hs
 | k + 1,.goto ..,st,a,w,hs,_,_,_,_,_=>by simp [seqsN] at hs
 | k + 1,.refuse ..,st,a,w,hs,_,_,_,_,_=>by simp [seqsN] at hs
def segQ (E:Env) (rl:List ResultVar) (rs:List RV) (S:St):Exit → St → Prop
 | .normal,s=>Le s S
 | .ret,s=>RetL E rl rs s
 | _,_=>False
@[simp] theorem segQ_normal (E:Env) (rl:List ResultVar) (rs:List RV) (S s:St):segQ E rl rs S .normal s = Le s S:=(rfl)
@[simp] theorem segQ_ret (E:Env) (rl:List ResultVar) (rs:List RV) (S s:St):segQ E rl rs S .ret s = RetL E rl rs s:=(rfl)
theorem seg {E:Env} (hE:E.Ok) {n:Nat} {z z1:Base} {F0 F1:Nat → Prop} {rl:List ResultVar} {rs:List RV} {st:St} {a:Act} {w:World} {c:Code} (k:Nat) (S:St) (hx:Ctx E z1 F1) (hb:Back z F0 z1 F1) (hf:Fits z1 F1 n st a w)
  (hs:seqsN k c = true) (hok:codeOk E.M n (cutC k c) = true) (hX:Xc E n (cutC k c) (segQ E rl rs S) st) (h1:∀ a' w',Fits z1 F1 n S a' w' → (restN k c).wp E.P (conc z F0 n (retE E rl rs)) a' w') :
  c.wp E.P (conc z F0 n (retE E rl rs)) a w:=by
 refine X_cut hE hx k c st a w hs hok hX hf (fun st' a' w' hq hf'=>h1 a' w' (hf'.le hq)) fun e st' a' w' hne hq hf'=>?_
 cases e with
 | normal=>exact absurd rfl hne
 | ret=>exact ⟨st',hq,hb.fits hf'⟩
 | exit i=>exact hq.elim
 | goto i=>exact hq.elim
 | panic c=>exact hq.elim
 | outgrown=>exact hq.elim
theorem segEnd {E:Env} (hE:E.Ok) {n:Nat} {z z1:Base} {F0 F1:Nat → Prop} {rl:List ResultVar} {rs:List RV} {st:St} {a:Act} {w:World} {c:Code} (hx:Ctx E z1 F1) (hb:Back z F0 z1 F1) (hf:Fits z1 F1 n st a w)
  (hok:codeOk E.M n c = true) (hX:Xc E n c (retE E rl rs) st):c.wp E.P (conc z F0 n (retE E rl rs)) a w :=
 wp_mono (X_sound hE c st _ hok hX z1 F1 a w hx hf) fun e a' w' ⟨s,hs,hf'⟩=>⟨s,hs,hb.fits hf'⟩
theorem XR_part {E:Env} (hE:E.Ok) {w0:Base} {F0:Nat → Prop} {n:Nat} (hx:Ctx E w0 F0) {ops:Array Oper} (hdst:dstOk n ops = true) {K:St → Prop} {Q:Exit → Act → World → Prop} {rest:List Nat}
  (hQ:∀ st a w,K st → Fits w0 F0 n st a w → wpOps E.P ops Q rest a w):∀ (os:List Oper) (k:Nat) (st:St) (a:Act) (w:World),(ops.toList.drop k).take os.length = os → XR E ops os st K → Fits w0 F0 n st a w → wpOps E.P ops Q (List.range' k os.length ++ rest) a w
 | [],k,st,a,w,_,hX,h=>hQ st a w hX h
 | o :: os,k,st,a,w,hk,hX,h=>by
  have ho:ops[k]? = some o:=by
   have:=congrArg (fun l=>l[0]?) hk
   simpa using this
  have hkl:k < ops.size:=(Array.getElem?_eq_some_iff.1 ho).1
  have hk':(ops.toList.drop (k + 1)).take os.length = os:=by
   have h2:ops.toList.drop k = o :: ops.toList.drop (k + 1):=by
    rw [List.drop_eq_getElem_cons (by simpa using hkl)]
    congr 1
    have:=(Array.getElem?_eq_some_iff.1 ho).2
    simpa using this
   rw [h2] at hk
   simpa using hk
  have hmem:o ∈ ops.toList:=List.mem_of_getElem? (i:=k) (by simpa using ho)
  rw [List.length_cons,List.range'_succ,List.cons_append,wpOps_cons]
  simp only [XR] at hX
  split at hX
  ·exact hX.elim
  ·rename_i g hg
   obtain ⟨F,ρ,hf⟩:=h
   have hw:=guard_run (a:=a) (F:=F) (ρ:=ρ) (w:=w) hg fun j want d v _ hd hv=>by
    obtain ⟨o',ho',hd'⟩:=Option.bind_eq_some_iff.1 hd
    exact ⟨by rw [hf.size]; exact dstOk_spec hdst (by simpa using Array.mem_of_getElem? ho') hd',hf.tmps d v hv⟩
   unfold wpOp
   rw [ho]
   simp only
   cases g with
   | true =>
    rw [if_pos hw]
    exact .inl (Oper.wp_mono (fun a' w' ⟨st',h1,h2⟩=>XR_part hE hx hdst hQ os (k + 1) st' a' w' hk' h1 h2) (opX_wp hE hx ⟨F,ρ,hf⟩ (fun d hd=>dstOk_spec hdst hmem hd) (hX.1 rfl) Q))
   | false =>
    rw [if_neg (by rw [hw]; simp)]
    refine XR_part hE hx hdst hQ os (k + 1) _ _ w hk' (hX.2 rfl) ⟨F,ρ,hf.post (v:=.tup []) (frs:=[]) ?_ (fun _ h=>by simp [look] at h) fun d hd=>dstOk_spec hdst hmem hd⟩
    exact ⟨Below.refl _ _,fun _ h=>h,fun _ h=>.inl h,hf.lt,.tup [] #[] rfl (fun j x v h=>by simp at h),fun _ _=>rfl,fun _ _ _ h=>by simp [look] at h,fun _ _ h=>by simp [look] at h,fun _ _ _ _ _ _ h=>by simp [look] at h⟩
theorem region_hand {E:Env} (hE:E.Ok) {n:Nat} {z1:Base} {F1:Nat → Prop} {id:Nat} {ops:Array Oper} {Q:Exit → Act → World → Prop} (m:Nat) {st S1:St} {a:Act} {w:World} {o:Oper} (hx:Ctx E z1 F1) (hf:Fits z1 F1 n st a w) (hdst:dstOk n ops = true)
  (hm:ops[m]? = some o) (hg:o.guard = none) (hX:Rc E ops (ops.toList.take m) (fun s=>Le s S1) st)
  (hop:∀ a w,Fits z1 F1 n S1 a w → o.wp E.P a w (fun a' w'=>∃ z2 F2 S2 S3,Ctx E z2 F2 ∧ Fits z2 F2 n S2 a' w' ∧ Rc E ops (ops.toList.drop (m + 1)) (fun s=>Le s S3) S2 ∧ ∀ a w,Fits z2 F2 n S3 a w → Q .normal a w) Q) :
  (Code.region id ops false).wp E.P Q a w:=by
 refine wp_region ?_
 have hml:=(Array.getElem?_eq_some_iff.1 hm).1
 have e:List.range ops.size = List.range' 0 (ops.toList.take m).length ++ m :: List.range' (m + 1) (ops.toList.drop (m + 1)).length:=by
  have h1:(ops.toList.take m).length = m:=by simp; omega
  rw [h1,List.range_eq_range']
  have h2:ops.size = m + ((ops.toList.drop (m + 1)).length + 1):=by simp; omega
  rw [h2,← List.range'_append_1]
  simp [List.range'_succ]
 rw [e]
 refine XR_part hE hx hdst (K:=fun s=>Le s S1) (fun s a w hs hf'=>?_) (ops.toList.take m) 0 st a w (by simp) hX hf
 rw [wpOps_cons]
 unfold wpOp
 rw [hm]
 simp only
 rw [if_pos (by simp [Region.wanted,hg])]
 refine .inl (Oper.wp_mono ?_ (hop a w (hf'.le hs)))
 rintro a' w' ⟨z2,F2,S2,S3,hx2,hf2,hX2,hq⟩
 exact XR_seq (K:=fun s=>Le s S3) hE hx2 hdst (fun s a w hs hf'=>hq a w (hf'.le hs)) _ (m + 1) S2 a' w' rfl hX2 hf2
def fixB:AV → Bool
 | .i _ | .agg _=>true
 | _=>false
def IV.num:IV → Bool
 | .int .. | .bool _ | .str _=>true
 | _=>false
theorem IV.num_flat {x:IV} (h:x.num = true):x.flat = true:=by cases x <;> simp [IV.num] at h <;> rfl
inductive TRep (w:World):(Nat → Prop) → IV → Value → Prop
 | flat (R:Nat → Prop) (x:IV) (v:Value) (hx:x.num = true) (h:Rep (fun _=>False) w x v):TRep w R x v
 | nil (R:Nat → Prop) (a:Option Addr):TRep w R (.sl []) (.slice a 0 0)
 | sl (R:Nat → Prop) (els:List (List IV)) (b off c sz:Nat) (cs:Array Value) (ty:TypeId) (cv:Nat → Nat → Value) (Rs:Nat → Nat → Nat → Prop) (hb:R b) (hcs:w.heap[b]? = some (.cells cs ty (0,0))) (hN:off + c * sz ≤ cs.size)
   (hlc:els.length ≤ c) (hsz:∀ el ∈ els,el.length = sz) (hR:∀ i j b',Rs i j b' → R b' ∧ b' ≠ b) (hd:∀ i j i' j' b',Rs i j b' → Rs i' j' b' → i = i' ∧ j = j')
   (hc:∀ (i:Nat) (el:List IV) (j:Nat) (x:IV),els[i]? = some el → el[j]? = some x → cs[off + i * sz + j]? = some (cv i j))
   (hr:∀ (i:Nat) (el:List IV) (j:Nat) (x:IV),els[i]? = some el → el[j]? = some x → TRep w (Rs i j) x (cv i j)):TRep w R (.sl els) (.slice (some ⟨b,off,none⟩) els.length c)
theorem TRep.rep {w:World} {R:Nat → Prop} {x:IV} {v:Value} (h:TRep w R x v):Rep R w x v:=by
 induction h with
 | flat R x v hx h=>exact h.of_flat (IV.num_flat hx)
 | nil R a=>exact .slE _ _
 | sl R els b off c sz cs ty cv Rs hb hcs hN hlc hsz hR hd hc hr ih =>
  refine .sl els b off c sz cv hb hlc hsz (fun i el j x h1 h2=>?_) fun i el j x h1 h2=>(ih i el j x h1 h2).mono (fun b' hb'=>(hR i j b' hb').1) fun _ _=>rfl
  simp [World.cell?,hcs,hc i el j x h1 h2]
theorem TRep.mono {w w':World} {R:Nat → Prop} {x:IV} {v:Value} (h:TRep w R x v):∀ {R':Nat → Prop},(∀ b,R b → R' b) → (∀ b,R b → w'.heap[b]? = w.heap[b]?) → TRep w' R' x v:=by
 induction h with
 | flat R x v hx h=>exact fun _ _=>.flat _ x v hx (h.of_flat (IV.num_flat hx))
 | nil R a=>exact fun _ _=>.nil _ a
 | sl R els b off c sz cs ty cv Rs hb hcs hN hlc hsz hR hd hc hr ih =>
  intro R' hRR hw
  exact .sl R' els b off c sz cs ty cv Rs (hRR b hb) ((hw b hb).trans hcs) hN hlc hsz (fun i j b' h=>⟨hRR b' (hR i j b' h).1,(hR i j b' h).2⟩) hd hc fun i el j x h1 h2=>ih i el j x h1 h2 (fun _ h=>h) fun b' hb'=>hw b' (hR i j b' hb').1
def TRepA (R:Nat → Prop) (w:World):AV → Value → Prop
 | .i x,v=>TRep w R x v
 | .agg cells,v=>∃ (cs:Array Value) (Rs:Nat → Nat → Prop),v = .agg cs ∧ cs.size = cells.length ∧ (∀ j b,Rs j b → R b) ∧ (∀ j j' b,Rs j b → Rs j' b → j = j') ∧ ∀ (j:Nat) (x:IV) (u:Value),cells[j]? = some x → cs[j]? = some u → TRep w (Rs j) x u
 | _,_=>False
theorem TRepA.rep {R:Nat → Prop} {w:World} {y:AV} {v:Value} {ρ:Locs} (h:TRepA R w y v):RepA R ρ w y v:=by
 cases y <;> (try exact h.elim)
 ·exact .i _ _ (TRep.rep h)
 ·obtain ⟨cs,Rs,rfl,h1,h2,h3,h4⟩:=h
  exact .agg _ _ h1 fun j x u hx hu=>(h4 j x u hx hu).rep.mono (h2 j) fun _ _=>rfl
theorem TRepA.mono {R R':Nat → Prop} {w w':World} {y:AV} {v:Value} (h:TRepA R w y v) (hR:∀ b,R b → R' b) (hw:∀ b,R b → w'.heap[b]? = w.heap[b]?):TRepA R' w' y v:=by
 cases y <;> (try exact h.elim)
 ·exact TRep.mono h hR hw
 ·obtain ⟨cs,Rs,rfl,h1,h2,h3,h4⟩:=h
  exact ⟨cs,Rs,rfl,h1,fun j b hb=>hR b (h2 j b hb),h3,fun j x u hx hu=>(h4 j x u hx hu).mono (fun _ h=>h) fun b hb=>hw b (h2 j b hb)⟩
structure Tree (R:Nat → Prop) (B:Nat) (w:World) (y:AV) (v:Value):Prop where
 tr:TRepA R w y v
 new:∀ b,R b → B ≤ b
 lt:∀ b,R b → b < w.heap.size
theorem Tree.rep {R:Nat → Prop} {B:Nat} {w:World} {y:AV} {v:Value} (h:Tree R B w y v):RepA R (fun _=>none) w y v:=h.tr.rep
structure PD (E:Env) (f:FuncId) (args:List AV) (y:AV):Prop where
 goes:goesB E.P f = true
 run:∀ (F:Nat → Prop) (w:World) (cargs:Array Value),GRep E F w → (∀ b,F b → b < w.heap.size) → cargs.size = args.length →
  (∀ (j:Nat) (x:AV) (v:Value),args[j]? = some x → cargs[j]? = some v → RepA F (fun _=>none) w x v) →
  Calls E.P f cargs w fun e w'=>∃ v R,e = .returned v ∧ Below w.heap.size w w' ∧ Tree R w.heap.size w' y v
structure PW (E:Env) (f:FuncId) (y:AV) (k r:Int):Prop where
 goes:goesB E.P f = true
 run:∀ (F R:Nat → Prop) (w:World) (v:Value),GRep E F w → (∀ b,F b → b < w.heap.size) → (∀ b,F b → ¬ R b) → TRepA R w y v → (∀ b,R b → b < w.heap.size) →
  Calls E.P f #[v,.int .i64 k] w fun e w'=>e = .returned (.int .i64 r) ∧ Base.Kept ⟨w,R,fun _=>none⟩ w'
theorem RepA.fix {F F':Nat → Prop} {ρ ρ':Locs} {w w':World} {x:AV} {v:Value} (h:RepA F ρ w x v) (hx:fixB x = true) (hF:∀ b,F b → F' b) (hw:∀ b,F b → w'.heap[b]? = w.heap[b]?):RepA F' ρ' w' x v:=by
 cases h with
 | i x v h=>exact .i x v (h.mono hF hw)
 | agg cells cs hs hr=>exact .agg cells cs hs fun j x v h1 h2=>(hr j x v h1 h2).mono hF hw
 | _=>simp [fixB] at hx
def pinT (us:Nat → Value) (ps:List (Nat × AV)):List (Nat × AV):=ps.map fun p=>(p.1,.pin (us p.1) p.2)
theorem look_pinT {us:Nat → Value}:∀ {ps:List (Nat × AV)} {t:Nat} {u:AV},look (pinT us ps) t = some u → ∃ x,(t,x) ∈ ps ∧ u = .pin (us t) x
 | [],t,u,h=>by simp [pinT,look] at h
 | (i,x) :: ps,t,u,h=>by
  simp only [pinT,List.map_cons,look_cons] at h
  split at h
  ·rename_i e; subst e; exact ⟨x,by simp,(Option.some.inj h).symm⟩
  ·obtain ⟨y,h1,h2⟩:=look_pinT h
   exact ⟨y,by simp [h1],h2⟩
theorem deepCall_wp {E:Env} {z:Base} {F0:Nat → Prop} {n:Nat} {st:St} {a:Act} {w:World} (hx:Ctx E z F0) (hf:Fits z F0 n st a w) {o:Oper} {d:Nat} (hd:o.dst = some d) (hdn:d < n) {g:FuncId} {vs ys:List AV} {y:AV}
  (hc:calleeA E st.T o.op = some (g,vs)) (hy:immL st.H vs = some ys) (hno:vs.all noOwn = true) (hpd:PD E g ys y) (ps:List (Nat × AV)) (hps:∀ p ∈ ps,look st.T p.1 = some p.2 ∧ fixB p.2 = true ∧ p.1 ≠ d) (Q:Exit → Act → World → Prop) :
  o.wp E.P a w (fun a' w'=>∃ (z1:Base) (F R:Nat → Prop) (v:Value) (us:Nat → Value),z1.w = w' ∧ Ctx E z1 (fun b=>F b ∨ R b) ∧ Back z F0 z1 (fun b=>F b ∨ R b) ∧ (∀ b,F0 b → F b) ∧ (∀ b,F b → ¬ R b) ∧ GRep E F w' ∧ (∀ b,R b → z.mine b) ∧
   Tree R w.heap.size w' y v ∧ (∀ p ∈ ps,RepA F (fun _=>none) w' p.2 (us p.1)) ∧ Fits z1 (fun b=>F b ∨ R b) n ⟨(d,.pin v y) :: (pinT us ps ++ st.T),st.H⟩ a' w') Q:=by
 obtain ⟨F,ρ,h⟩:=hf
 have hp:=h.pre hx o
 obtain ⟨cargs,hrun,hsz,hargs⟩:=call_step hp hc
 obtain ⟨hl1,hl2⟩:=immL_spec hy
 unfold Oper.wp
 rw [hrun,goes_run hpd.goes]
 show Calls E.P g cargs w _
 refine (hpd.run F w cargs hp.glob hp.lt (by omega) fun j u v hu hv=>?_).mono ?_
 ·obtain ⟨x,hx',hxy⟩:=hl2 j u hu
  exact immA_noOwn (hargs j x v hx' hv) hxy (List.all_eq_true.1 hno x (List.mem_of_getElem? hx'))
 ·rintro e w' ⟨v,R,rfl,hb,ht⟩
  have hRlt:∀ b,R b → b < w'.heap.size:=ht.lt
  have hFw:∀ b,F b → w'.heap[b]? = w.heap[b]?:=fun b hb'=>hb.block b (h.lt b hb')
  have hFR:∀ b,F b → ¬ R b:=fun b h1 h2=>by have:=h.lt b h1; have:=ht.new b h2; omega
  have hmine:∀ b,R b → z.mine b:=fun b hb'=>.inl (Nat.le_trans h.below.size (ht.new b hb'))
  have hblt:∀ o' ob' L1,look st.H o' = some ob' → ρ o' = some L1 → L1.b < w.heap.size:=by
   intro o' ob' L1 ho' hL
   obtain ⟨cs,ty,h3,-⟩:=(h.heap.obj o' ob' L1 ho' hL).1.at_
   exact (Array.getElem?_eq_some_iff.1 h3).1
  have hfit:Fit z F0 n ⟨(d,.pin v y) :: (pinT (fun t=>a.tmps.getD t undef) ps ++ st.T),st.H⟩ (a.put o.dst v) w' (fun b=>F b ∨ R b) ρ:=by
   refine ⟨⟨h.below.below hb,by rw [put_defers']; exact h.defers,by rw [put_size']; exact h.size,fun b hb'=>.inl (h.sub b hb'),fun b hb'=>?_,fun b hb'=>?_, ?_,⟨fun o' ob' L ho' hL=>?_,h.heap.sm,h.heap.apart⟩⟩,h.dom,h.pin⟩
   ·exact hb'.elim (h.sup b) fun h1=>.inr (hmine b h1)
   ·exact hb'.elim (fun h1=>Nat.lt_of_lt_of_le (h.lt b h1) hb.size) (hRlt b)
   ·refine fit_tmps (dst:=o.dst) (T:=pinT (fun t=>a.tmps.getD t undef) ps ++ st.T) (v:=.pin v y) (a:=a) (fun t u hu=>?_) (.pin v y (RepA.mono (F:=R) (ρ:=fun _=>none) (w:=w') (fun b hb'=>Or.inr hb') (fun _ _=>rfl) (fun _ _ h=>by simp at h) ht.rep)) (fun d' hd'=>by rw [hd] at hd'; obtain rfl:=Option.some.inj hd'; rw [h.size]; exact hdn) |> fun hh=>by
     rw [hd] at hh ⊢; exact hh
    rw [look_append] at hu
    split at hu
    ·rename_i q hq
     obtain rfl:=Option.some.inj hu
     obtain ⟨x,hxm,rfl⟩:=look_pinT hq
     obtain ⟨h1,h2,h3⟩:=hps _ hxm
     exact .pin _ _ ((h.tmps t x h1).mono (fun b hb'=>.inl hb') hFw fun _ _ h=>h)
    ·exact (h.tmps t u hu).mono (fun b hb'=>.inl hb') hFw fun _ _ h=>h
   ·obtain ⟨q1,q2,q3⟩:=h.heap.obj o' ob' L ho' hL
    have hlt:=hblt o' ob' L ho' hL
    exact ⟨q1.mono (fun b hb'=>.inl hb') hFw (hb.block _ hlt),q2,fun hh=>hh.elim q3 fun h1=>by have:=ht.new _ h1; omega⟩
  obtain ⟨r1,r2,r3⟩:=hfit.restart hx
  exact ⟨_,F,R,v,fun t=>a.tmps.getD t undef,rfl,r1,r3,h.sub,hFR,hp.glob.mono (fun _ h=>h) hFw,hmine,ht,fun p hp'=>(h.tmps p.1 p.2 (hps p hp').1).fix (hps p hp').2.1 (fun _ h=>h) hFw,_,_,r2⟩
def keptT (st:St) (G:Nat → Prop) (w:World):List (Nat × AV) → Prop
 | []=>True
 | (t,u) :: l=>((look st.T t = some u ∧ ((∃ x,u = .i x ∧ x.flat = true) ∨ (∃ o off len,u = .own o off len) ∨ ∃ c x,u = .pin c x ∧ fixB x = true ∧ RepA G (fun _=>none) w x c))) ∧ keptT st G w l
theorem keptT_spec {st:St} {G:Nat → Prop} {w:World}:∀ {l:List (Nat × AV)},keptT st G w l → ∀ t u,look l t = some u →
  (look st.T t = some u ∧ ((∃ x,u = .i x ∧ x.flat = true) ∨ (∃ o off len,u = .own o off len) ∨ ∃ c x,u = .pin c x ∧ fixB x = true ∧ RepA G (fun _=>none) w x c))
 | [],_,t,u,h=>by simp [look] at h
 | (i,x) :: l,hk,t,u,h=>by
  rw [look_cons] at h
  split at h
  ·rename_i e; subst e; obtain rfl:=Option.some.inj h; exact hk.1
  ·exact keptT_spec hk.2 t u h
def flatH:List (Nat × Obj) → Prop
 | []=>True
 | (_,ob) :: l=>flatO ob ∧ flatH l
theorem flatH_spec:∀ {H:List (Nat × Obj)},flatH H → ∀ o ob,look H o = some ob → flatO ob
 | [],_,o,ob,h=>by simp [look] at h
 | (i,x) :: l,hk,o,ob,h=>by
  rw [look_cons] at h
  split at h
  ·obtain rfl:=Option.some.inj h; exact hk.1
  ·exact flatH_spec hk.2 o ob h
theorem meltCall_wp {E:Env} {z z1:Base} {F0 F R:Nat → Prop} {n:Nat} {st:St} {a:Act} {w:World} {B:Nat} (hx:Ctx E z1 (fun b=>F b ∨ R b)) (hb:Back z F0 z1 (fun b=>F b ∨ R b)) (hf:Fits z1 (fun b=>F b ∨ R b) n st a w)
  (h0:∀ b,F0 b → F b) (hFR:∀ b,F b → ¬ R b) (hG:GRep E F z1.w) (hmine:∀ b,R b → z.mine b) {y:AV} {v:Value} (ht:Tree R B z1.w y v)
  {o:Oper} {d t1 t2:Nat} (hd:o.dst = some d) (hdn:d < n) {g:FuncId} {ts:Array TypeId} (hop:o.op = .call ⟨.value (.func g),#[.tmp t1,.tmp t2],ts⟩) {k r:Int} (h1:look st.T t1 = some (.pin v y)) (h2:look st.T t2 = some (.i (.int .i64 k))) (hpw:PW E g y k r)
  (T':List (Nat × AV)) (hT:keptT st F z1.w T') (hH:flatH st.H) (Q:Exit → Act → World → Prop) :
  o.wp E.P a w (fun a' w'=>∃ z2,Ctx E z2 F ∧ Back z F0 z2 F ∧ Fits z2 F n ⟨(d,.i (.int .i64 r)) :: T',st.H⟩ a' w') Q:=by
 obtain ⟨F',ρ,h⟩:=hf
 have hp:=h.pre hx o
 have hv1:a.tmps.getD t1 undef = v:=by
  have:=h.tmps t1 _ h1
  generalize a.tmps.getD t1 undef = u at this
  cases this; rfl
 have hv2:a.tmps.getD t2 undef = .int .i64 k:=(h.tmps t2 _ h2).int_inv
 have hrun:(execOp a.eval o).run E.P w = (callFunc g #[v,.int .i64 k]).run E.P w:=by
  unfold execOp; rw [hop]
  have e1:a.eval (.tmp t1) = v:=hv1
  have e2:a.eval (.tmp t2) = .int .i64 k:=hv2
  have e3:a.eval (.func g) = .func (.func g) #[] #[]:=rfl
  simp [resolve,Deferred.ofValue,invoke,e1,e2,e3]
 have hRw:∀ b,R b → w.heap[b]? = z1.w.heap[b]?:=fun b hb'=>h.below.block b (hx.lt b (.inr hb'))
 unfold Oper.wp
 rw [hrun,goes_run hpw.goes]
 show Calls E.P g #[v,.int .i64 k] w _
 have hRlt:∀ b,R b → b < w.heap.size:=fun b hb'=>h.lt b (h.sub b (.inr hb'))
 have hFw1:∀ b,F b → w.heap[b]? = z1.w.heap[b]?:=fun b hb'=>h.below.block b (hx.lt b (.inl hb'))
 refine (hpw.run F R w v (hG.mono (fun _ h=>h) hFw1) (fun b hb'=>h.lt b (h.sub b (.inl hb'))) hFR (ht.tr.mono (fun _ h=>h) hRw) hRlt).mono ?_
 rintro e w' ⟨rfl,hk⟩
 have hkeep:∀ b,b < w.heap.size → ¬ R b → w'.heap[b]? = w.heap[b]?:=fun b hb' hr=>hk.block b fun hm=>hm.elim (fun h=>absurd hb' (Nat.not_lt.2 h)) hr
 have hFlt:∀ b,F b → b < w.heap.size:=fun b hb'=>h.lt b (h.sub b (.inl hb'))
 have hFw':∀ b,F b → w'.heap[b]? = z1.w.heap[b]?:=fun b hb'=>(hkeep b (hFlt b hb') (hFR b hb')).trans (hFw1 b hb')
 have hblt:∀ o' ob' L1,look st.H o' = some ob' → ρ o' = some L1 → L1.b < w.heap.size:=by
  intro o' ob' L1 ho' hL
  obtain ⟨cs,ty,h3,-⟩:=(h.heap.obj o' ob' L1 ho' hL).1.at_
  exact (Array.getElem?_eq_some_iff.1 h3).1
 have hnR:∀ o' ob' L1,look st.H o' = some ob' → ρ o' = some L1 → ¬ R L1.b:=fun o' ob' L1 ho' hL hr=>(h.heap.obj o' ob' L1 ho' hL).2.2 (h.sub _ (.inr hr))
 have hkz:z.Kept w':=(hb.kept.trans_of hb.mine h.below).comp hmine hk
 have hfit:Fit z F0 n ⟨(d,.i (.int .i64 r)) :: T',st.H⟩ (a.put o.dst (.int .i64 r)) w' F ρ:=by
  refine ⟨⟨hkz,by rw [put_defers']; exact h.defers,by rw [put_size']; exact h.size,h0,fun b hb'=>hb.sup b (.inl hb'),fun b hb'=>Nat.lt_of_lt_of_le (hFlt b hb') hk.size, ?_,⟨fun o' ob' L ho' hL=>?_,h.heap.sm,h.heap.apart⟩⟩,h.dom,fun o' h7 ho'=>(h.pin o' h7 ho').trans (hb.at_ o' h7)⟩
  ·refine fit_tmps (dst:=o.dst) (T:=T') (v:=.i (.int .i64 r)) (a:=a) (fun t u hu=>?_) (.i _ _ (.int _ _)) (fun d' hd'=>by rw [hd] at hd'; obtain rfl:=Option.some.inj hd'; rw [h.size]; exact hdn) |> fun hh=>by
    rw [hd] at hh ⊢; exact hh
   obtain ⟨hl,hcase⟩:=keptT_spec hT t u hu
   have hr:=h.tmps t u hl
   rcases hcase with ⟨x,rfl,hfl⟩ | ⟨o',off,len,rfl⟩ | ⟨c,x,rfl,hfx,hrx⟩
   ·generalize a.tmps.getD t undef = q at hr
    cases hr with | i _ _ hr=>exact .i _ _ (hr.of_flat hfl)
   ·generalize a.tmps.getD t undef = q at hr
    cases hr with
    | own _ _ _ c L ho hm hl hN=>exact .own _ _ _ c L ho hm hl hN
    | ownE _ _ ad=>exact .ownE _ _ _
   ·generalize a.tmps.getD t undef = q at hr
    cases hr with | pin _ _ hr=>exact .pin _ _ (hrx.fix hfx (fun _ h=>h) hFw')
  ·obtain ⟨q1,q2,q3⟩:=h.heap.obj o' ob' L ho' hL
   have hfo:=flatH_spec hH o' ob' ho'
   refine ⟨?_,hb.mine _ q2,fun hF=>q3 (h.sub _ (.inl hF))⟩
   have q1':ObjRep F w ob' L:=q1.flat hfo
   exact q1'.mono (fun _ h=>h) (fun b hb'=>hkeep b (hFlt b hb') (hFR b hb')) (hkeep _ (hblt o' ob' L ho' hL) (hnR o' ob' L ho' hL))
 have hx0:Ctx E ⟨w',Dm ρ st.H,z.at_⟩ F:=⟨hG.mono (fun _ h=>h) hFw',fun b hb' hm=>by
  rcases hm with hm | ⟨o',ob',L,g1,g2,rfl⟩
  ·exact absurd (Nat.lt_of_lt_of_le (hFlt b hb') hk.size) (Nat.not_lt.2 hm)
  ·exact (h.heap.obj o' ob' L g1 g2).2.2 (h.sub _ (.inl hb'))⟩
 refine ⟨⟨w',Dm ρ st.H,z.at_⟩,hx0,⟨hkz,fun b hb'=>?_,h0,fun b hb'=>hb.sup b (.inl hb'),fun _ _=>rfl⟩,F,ρ,⟨⟨Base.Kept.refl _,hfit.defers,hfit.size,fun _ h=>h,fun _ h=>.inl h,hfit.lt,hfit.tmps,⟨fun o' ob' L g1 g2=>⟨(hfit.heap.obj o' ob' L g1 g2).1,.inr ⟨o',ob',L,g1,g2,rfl⟩,(hfit.heap.obj o' ob' L g1 g2).2.2⟩,hfit.heap.sm,hfit.heap.apart⟩⟩,hfit.dom,hfit.pin⟩⟩
 rcases hb' with hb' | ⟨o',ob',L,g1,g2,rfl⟩
 ·exact .inl (Nat.le_trans hkz.size hb')
 ·exact (hfit.heap.obj o' ob' L g1 g2).2.1
end Go.Vai
namespace Go.Vai
def base0 (w:World):Base:=⟨w,fun _=>False,fun _=>none⟩
theorem hand_start {E:Env} (hE:E.Ok) {f:FuncId} {fn:Func} {c:Code} {n:Nat} {args:List AV} (hf:E.P.funcs[f]? = some fn) (hb:fn.body = some c) (hnt:fn.ntmps = n) (hn:args.length ≤ n) {F:Nat → Prop} {w:World} {cargs:Array Value}
  (hG:GRep E F w) (hlt:∀ b,F b → b < w.heap.size) (hsz:cargs.size = args.length) (hrep:∀ (j:Nat) (x:AV) (v:Value),args[j]? = some x → cargs[j]? = some v → RepA F (fun _=>none) w x v) {R:Ending → World → Prop}
  (h:∀ a,Ctx E (base0 w) F → Fits (base0 w) F n ⟨numT 0 args,[]⟩ a w → c.wp E.P (bodyPost E.P fn R) a w):Calls E.P f cargs w R:=by
 subst hnt
 refine calls_of_wp hf hb (h _ ⟨hG,fun b hb hm=>hm.elim (fun h=>absurd (hlt b hb) (Nat.not_lt.2 h)) False.elim⟩ ?_)
 refine ⟨F,fun _=>none,⟨⟨Base.Kept.refl _,rfl,by simp; omega,fun _ h=>h,fun _ h=>.inl h,hlt,fun t v hv=>?_,⟨fun o ob L h1=>by simp [look] at h1,fun o ob h1=>by simp [look] at h1,fun o o' ob ob' L L' h1=>by simp [look] at h1⟩⟩,fun o L h=>by simp at h,fun _ _ _=>rfl⟩⟩
 obtain ⟨-,h2⟩:=look_numT args 0 t v hv
 have h3:t < cargs.size:=by rw [hsz]; exact (List.getElem?_eq_some_iff.1 h2).1
 have h4:(cargs ++ Array.replicate (fn.ntmps - cargs.size) undef).getD t undef = cargs[t]:=by
  rw [Array.getD_eq_getD_getElem?,Array.getElem?_append,if_pos h3,Array.getElem?_eq_getElem h3]; rfl
 simp only
 rw [h4]
 exact hrep t v _ h2 (Array.getElem?_eq_getElem h3)
theorem hand_end {E:Env} (hE:E.Ok) {z:Base} {F0:Nat → Prop} {n:Nat} {st:St} {a:Act} {w:World} {F:Nat → Prop} {ρ:Locs} (h:Fit z F0 n st a w F ρ) {fn:Func} {rl:List ResultVar} (hr:fn.results.toList = rl) {u:AV} (hres:resV E st rl = some [u]) :
  ∃ v,(results fn a.tmps).run E.P w = .ok v w ∧ RepA F ρ w u v:=by
 subst hr
 obtain ⟨us,g1,g2,g3⟩:=resV_run hE h.tmps (fun id ob L q1 q2=>(h.heap.obj id ob L q1 q2).1) hres
 obtain ⟨v,rfl⟩:∃ v,us = [v]:=by
  cases us with
  | nil=>simp at g2
  | cons v us=>cases us with
   | nil=>exact ⟨v,rfl⟩
   | cons=>simp at g2
 refine ⟨v, ?_,g3 0 u v rfl rfl⟩
 rw [results_eq,Array.mapM_eq_mapM_toList]
 simp only [Sem.run_bind,Sem.run_map,g1,Result.andThen_ok,Sem.run_pure]
 rfl
def normQ (S:St):Exit → St → Prop
 | .normal,s=>Le s S
 | _,_=>False
@[simp] theorem normQ_normal (S s:St):normQ S .normal s = Le s S:=(rfl)
theorem segN {E:Env} (hE:E.Ok) {n:Nat} {z1:Base} {F1:Nat → Prop} {Q:Exit → Act → World → Prop} {st:St} {a:Act} {w:World} {c:Code} (k:Nat) (S:St) (hx:Ctx E z1 F1) (hf:Fits z1 F1 n st a w)
  (hs:seqsN k c = true) (hok:codeOk E.M n (cutC k c) = true) (hX:Xc E n (cutC k c) (normQ S) st) (h1:∀ a' w',Fits z1 F1 n S a' w' → (restN k c).wp E.P Q a' w'):c.wp E.P Q a w:=by
 refine X_cut hE hx k c st a w hs hok hX hf (fun st' a' w' hq hf'=>h1 a' w' (hf'.le hq)) fun e st' a' w' hne hq hf'=>?_
 cases e with
 | normal=>exact absurd rfl hne
 | ret=>exact hq.elim
 | exit i=>exact hq.elim
 | goto i=>exact hq.elim
 | panic c=>exact hq.elim
 | outgrown=>exact hq.elim
theorem pieceN {E:Env} (hE:E.Ok) {n:Nat} {z1:Base} {F1:Nat → Prop} {Q:Exit → Act → World → Prop} {st:St} {a:Act} {w:World} {c:Code} (Q1:Exit → St → Prop) (hx:Ctx E z1 F1) (hf:Fits z1 F1 n st a w)
  (hok:codeOk E.M n c = true) (hX:Xc E n c Q1 st) (h1:∀ e s a' w',Q1 e s → Fits z1 F1 n s a' w' → Q e a' w'):c.wp E.P Q a w :=
 wp_mono (X_sound hE c st _ hok hX z1 F1 a w hx hf) fun e a' w' ⟨s,hs,hf'⟩=>h1 e s a' w' hs hf'
theorem loop_hand {P:Program} {c:Code} {Q:Exit → Act → World → Prop} {a:Act} {w:World} {ι:Type} (I:ι → Act → World → Prop) (μ:ι → Nat) (i0:ι) (h0:I i0 a w)
  (step:∀ i a w,I i a w → c.wp P (Exit.then (fun a' w'=>∃ i',μ i' < μ i ∧ I i' a' w') Q) a w):(Code.loop c).wp P Q a w:=by
 refine wp_loop (fun a w=>∃ i,I i a w) (fun a w=>leastOr fun k=>∃ i,μ i = k ∧ I i a w) ⟨i0,h0⟩ ?_
 rintro a w ⟨i1,hi1⟩
 obtain ⟨⟨i,hi,hfi⟩,-⟩:=leastOr_spec (p:=fun k=>∃ i,μ i = k ∧ I i a w) ⟨i1,rfl,hi1⟩
 refine wp_mono (step i a w hfi) ?_
 intro e a' w' hq
 cases e with
 | normal =>
  obtain ⟨i',hlt,hI'⟩:=hq
  refine ⟨⟨i',hI'⟩, ?_⟩
  have:=(leastOr_spec (p:=fun k=>∃ i,μ i = k ∧ I i a' w') ⟨i',rfl,hI'⟩).2
  omega
 | _=>exact hq
theorem same_of_back {E:Env} {z1 z2:Base} {F1 F2:Nat → Prop} (hx:Ctx E z1 F1) (hb:Back z1 F1 z2 F2) (b:Nat) (h:F1 b):z2.w.heap[b]? = z1.w.heap[b]?:=hb.kept.block b (hx.lt b h)
theorem same_of_fits {E:Env} {z1:Base} {F1:Nat → Prop} {n:Nat} {st:St} {a:Act} {w:World} (hx:Ctx E z1 F1) (h:Fits z1 F1 n st a w) (b:Nat) (hb:F1 b):w.heap[b]? = z1.w.heap[b]?:=by
 obtain ⟨F,ρ,hf⟩:=h
 exact hf.below.block b (hx.lt b hb)
theorem Tree.keep {R:Nat → Prop} {B:Nat} {w w':World} {y:AV} {v:Value} (h:Tree R B w y v) (hsz:w.heap.size ≤ w'.heap.size) (hw:∀ b,R b → w'.heap[b]? = w.heap[b]?):Tree R B w' y v :=
 ⟨h.tr.mono (fun _ h=>h) hw,h.new,fun b hb=>Nat.lt_of_lt_of_le (h.lt b hb) hsz⟩
theorem ObjRep.tree {F:Nat → Prop} {w:World} {sz:Nat} {els:List (List IV)} {L:Loc} {c:Nat} {R:Nat → Prop} (ho:ObjRep F w ⟨sz,els⟩ L) (hfl:∀ el ∈ els,∀ x ∈ el,x.num = true) (hlc:els.length ≤ c) (hN:L.base + c * L.sz ≤ L.N) (hR:R L.b) :
  TRep w R (.sl els) (.slice (some ⟨L.b,L.base,none⟩) els.length c):=by
 obtain ⟨h1,h2,h3,h4,cs,ty,h5,h6,h7⟩:=ho
 simp only at h1 h2 h3 h4 h7
 refine .sl R els L.b L.base c sz cs ty (fun i j=>cs[L.base + i * sz + j]?.getD undef) (fun _ _ _=>False) hR h5 (by rw [h6,← h1]; exact hN) hlc h3 (fun _ _ _ h=>h.elim) (fun _ _ _ _ _ h=>h.elim) (fun i el j x he hx=>?_) fun i el j x he hx=>?_
 ·obtain ⟨v,hv,-⟩:=h7 i el j x he hx
  rw [h1] at hv; rw [hv]; rfl
 ·obtain ⟨v,hv,hr⟩:=h7 i el j x he hx
  rw [h1] at hv; rw [hv]
  have hf:=hfl el (List.mem_of_getElem? he) x (List.mem_of_getElem? hx)
  exact .flat _ _ _ hf (hr.of_flat (IV.num_flat hf))
theorem PD.of_own {E:Env} {f:FuncId} {args:List AV} {sz:Nat} {els:List (List IV)} (hp:PC E f args [.own sz els]) (hfl:∀ el ∈ els,∀ x ∈ el,x.num = true):PD E f args (.i (.sl els)):=by
 refine ⟨hp.goes,fun F w cargs hG hlt hsz hrep=>(hp.run F w cargs hG hlt hsz hrep).mono ?_⟩
 rintro e w' ⟨vs,F',ls,rfl,hb,h1,h2,h3,hrr⟩
 obtain ⟨v,rfl⟩:∃ v,vs = [v]:=by
  have:=hrr.len
  cases vs with
  | nil=>simp at this
  | cons v vs=>cases vs with
   | nil=>exact ⟨v,rfl⟩
   | cons=>simp at this
 have hr:=hrr.rep 0 _ v rfl rfl
 generalize ls 0 = l at hr
 refine ⟨v,fun b=>∃ L,l = some L ∧ b = L.b,rfl,hb, ?_⟩
 cases hr with
 | own _ _ L c ho hB hF hlc hN =>
  refine ⟨ho.tree hfl hlc hN ⟨L,rfl,rfl⟩, ?_, ?_⟩
  ·rintro b ⟨L',h,rfl⟩; obtain rfl:=Option.some.inj h; exact hB
  ·rintro b ⟨L',h,rfl⟩; obtain rfl:=Option.some.inj h
   obtain ⟨cs,ty,h5,-⟩:=ho.at_
   exact (Array.getElem?_eq_some_iff.1 h5).1
 | ownE _ ad =>
  exact ⟨TRep.nil _ _,by rintro b ⟨L',h,-⟩; simp at h,by rintro b ⟨L',h,-⟩; simp at h⟩
theorem Fits.recast {z:Base} {F0:Nat → Prop} {n:Nat} {T:List (Nat × AV)} {H:List (Nat × Obj)} {a:Act} {w:World} {t:Nat} {u u':AV} (h:Fits z F0 n ⟨(t,u) :: T,H⟩ a w)
  (hu:∀ (F:Nat → Prop) (ρ:Locs) (v:Value),RepA F ρ w u v → RepA F ρ w u' v):Fits z F0 n ⟨(t,u') :: T,H⟩ a w:=by
 obtain ⟨F,ρ,hf⟩:=h
 refine ⟨F,ρ,⟨⟨hf.below,hf.defers,hf.size,hf.sub,hf.sup,hf.lt,fun s v hv=>?_,hf.heap⟩,hf.dom,hf.pin⟩⟩
 simp only [look_cons] at hv
 split at hv
 ·rename_i e; subst e
  obtain rfl:=Option.some.inj hv
  exact hu F ρ _ (hf.tmps t u (by simp [look_cons]))
 ·rename_i e
  exact hf.tmps s v (by simp only [look_cons]; rw [if_neg e]; exact hv)
theorem pin_raw {F:Nat → Prop} {ρ:Locs} {w:World} {v u:Value} {y:IV} (h:RepA F ρ w (.pin v (.i y)) u):RepA F ρ w (.i (.raw v)) u:=by
 cases h with | pin _ _ h=>cases h with | i _ _ h=>exact .i _ _ (.raw _ h.oneCell)
def rawsOf:Value → List IV
 | .agg cs=>cs.toList.map .raw
 | _=>[]
theorem pin_raws {F:Nat → Prop} {ρ:Locs} {w:World} {v u:Value} {cells:List IV} (h:RepA F ρ w (.pin v (.agg cells)) u):RepA F ρ w (.agg (rawsOf v)) u:=by
 cases h with | pin _ _ h =>
 cases h with | agg _ cs hs hr =>
 refine .agg _ _ (by simp [rawsOf]) fun j x v hx hv=>?_
 simp only [rawsOf,List.getElem?_map,Array.getElem?_toList,hv,Option.map_some] at hx
 obtain rfl:=Option.some.inj hx
 have hj:j < cells.length:=by rw [← hs]; exact (Array.getElem?_eq_some_iff.1 hv).1
 exact .raw _ (hr j _ v (List.getElem?_eq_getElem hj) hv).oneCell
def IsV (y:IV) (v:Value):Prop:=y = .raw v ∨ (y.num = true ∧ v = y.toV)
theorem IsV.eq {y:IV} {v u:Value} {F:Nat → Prop} {w:World} (h:IsV y v) (hr:Rep F w y u):u = v:=by
 rcases h with rfl | ⟨h1,rfl⟩
 ·cases hr; rfl
 ·cases y <;> simp [IV.num] at h1 <;> cases hr <;> rfl
def RowOk (R:Nat → Prop) (w:World) (row rw_:List IV):Prop :=
 rw_.length = row.length ∧ ∃ Rs:Nat → Nat → Prop,(∀ j b,Rs j b → R b) ∧ (∀ j j' b,Rs j b → Rs j' b → j = j') ∧ ∀ (c:Nat) (x:IV),row[c]? = some x → ∃ y v,rw_[c]? = some y ∧ IsV y v ∧ TRep w (Rs c) x v
theorem agg_tree {F R:Nat → Prop} {ρ:Locs} {w:World} {row rw_:List IV} {v:Value} (h:RepA F ρ w (.agg rw_) v) (hr:RowOk R w row rw_):TRepA R w (.agg row) v:=by
 cases h with | agg _ cs hs hc =>
 obtain ⟨h1,Rs,h2,h3,h4⟩:=hr
 refine ⟨cs,Rs,rfl,hs.trans h1,h2,h3,fun j x u hx hu=>?_⟩
 obtain ⟨y,v',g1,g2,g3⟩:=h4 j x hx
 rw [g2.eq (hc j y u g1 hu)]; exact g3
def endQ (S:St):Exit → St → Prop
 | .normal,s=>Le s S
 | .ret,s=>Le s S
 | _,_=>False
@[simp] theorem endQ_normal (S s:St):endQ S .normal s = Le s S:=(rfl)
@[simp] theorem endQ_ret (S s:St):endQ S .ret s = Le s S:=(rfl)
theorem end_hand {E:Env} (hE:E.Ok) {n:Nat} {z1:Base} {F1:Nat → Prop} {st:St} {a:Act} {w:World} {c:Code} {fn:Func} {rl:List ResultVar} {R:Ending → World → Prop} (S:St) (hr:fn.results.toList = rl) {u:AV} (hres:resV E S rl = some [u])
  (hx:Ctx E z1 F1) (hf:Fits z1 F1 n st a w) (hok:codeOk E.M n c = true) (hX:Xc E n c (endQ S) st) (h1:∀ a' w' F ρ v,Fit z1 F1 n S a' w' F ρ → RepA F ρ w' u v → R (.returned v) w'):c.wp E.P (bodyPost E.P fn R) a w:=by
 refine pieceN hE (endQ S) hx hf hok hX fun e s a' w' hq hf'=>?_
 have fin:Le s S → a'.defers = [] ∧ ∃ v,(results fn a'.tmps).run E.P w' = .ok v w' ∧ R (.returned v) w':=fun hle=>by
  obtain ⟨F,ρ,hfit⟩:=hf'.le hle
  obtain ⟨v,g1,g2⟩:=hand_end hE hfit hr hres
  exact ⟨hfit.defers,v,g1,h1 a' w' F ρ v hfit g2⟩
 cases e with
 | normal=>exact fin hq
 | ret=>exact fin hq
 | exit i=>exact hq.elim
 | goto i=>exact hq.elim
 | panic c=>exact hq.elim
 | outgrown=>exact hq.elim
theorem PW.of_pm {E:Env} {f:FuncId} {sz:Nat} {els:List (List IV)} {ob:Obj} {k r:Int} (hfl:∀ el ∈ els,∀ x ∈ el,x.num = true) (hsz0:∀ el ∈ els,el.length = sz) (hp:PM E f [.sl ⟨sz,els⟩,.i (.i (.int .i64 k))] [ob] [.i (.int .i64 r)]) (hp0:els = [] → ∀ s,∃ ob',PM E f [.sl ⟨s,[]⟩,.i (.i (.int .i64 k))] [ob'] [.i (.int .i64 r)]):PW E f (.i (.sl els)) k r:=by
 refine ⟨hp.goes,fun F R w v hglob hFlt hFR ht hlt=>?_⟩
 have key:∀ (ob:Obj) (sz:Nat),PM E f [.sl ⟨sz,els⟩,.i (.i (.int .i64 k))] [ob] [.i (.int .i64 r)] → ∀ (ρ:Locs),RepA F ρ w (.own 700000 0 els.length) v → (∀ L,ρ 700000 = some L → ObjRep F w ⟨sz,els⟩ L ∧ R L.b) → (els ≠ [] → (ρ 700000).isSome = true) → (∀ o L,ρ o = some L → o = 700000) →
   Calls E.P f #[v,.int .i64 k] w fun e w'=>e = .returned (.int .i64 r) ∧ Base.Kept ⟨w,R,fun _=>none⟩ w':=by
  intro ob sz hp ρ h1 h2 h3 h4
  refine (hp.run F ρ w #[v,.int .i64 k] hglob hFlt rfl (fun j x u hx hu=>?_) ⟨fun o ob' L ho hL=>?_,fun o ob' ho hne=>?_,fun o o' _ _ L L' _ _ g1 g2 _=>(h4 o L g1).trans (h4 o' L' g2).symm⟩ fun o L hL=>?_).mono ?_
  ·match j with
   | 0=>simp [maA,ma1] at hx hu; subst hx; subst hu; exact h1
   | 1=>simp [maA,ma1] at hx hu; subst hx; subst hu; exact .i _ _ (.int _ _)
   | j + 2=>simp [maA] at hx
  ·simp only [maH,ma2,List.append_nil,List.singleton_append,look_cons,look_nil] at ho
   split at ho
   ·rename_i e; subst e
    obtain rfl:=Option.some.inj ho
    exact ⟨(h2 L hL).1,trivial,fun h=>hFR _ h (h2 L hL).2⟩
   ·simp at ho
  ·simp only [maH,ma2,List.append_nil,List.singleton_append,look_cons,look_nil] at ho
   split at ho
   ·rename_i e; subst e
    obtain rfl:=Option.some.inj ho
    exact h3 hne
   ·simp at ho
  ·have:=h4 o L hL; subst this
   simp [maH,ma2,look_cons]
  ·rintro e w' ⟨vs,F',ls,u,rfl,hret,hk,-,-,-,hrr,-⟩
   obtain rfl:u = packV vs:=hret
   obtain ⟨x,rfl⟩:∃ x,vs = [x]:=by
    have:=hrr.len
    cases vs with
    | nil=>simp at this
    | cons v vs=>cases vs with
     | nil=>exact ⟨v,rfl⟩
     | cons=>simp at this
   have hr:=hrr.rep 0 _ x rfl rfl
   generalize ls 0 = l at hr
   cases hr with | i _ _ _ hr=>cases hr with | int _ _ =>
   refine ⟨rfl,⟨hk.os,hk.tape,hk.output,hk.size,fun b hb=>hk.block b (fun hm=>hb ?_),hk.drawn⟩⟩
   rcases hm with hm | ⟨o,ob',L,g1,g2,rfl⟩
   ·exact .inl hm
   ·have:=h4 o L g2; subst this
    exact .inr (h2 L g2).2
 have ht':TRep w R (.sl els) v:=ht
 generalize hy:IV.sl els = y at ht'
 cases ht' with
 | flat _ _ _ hx h=>subst hy; simp [IV.num] at hx
 | nil _ a =>
  obtain rfl:=IV.sl.inj hy
  exact key ob sz hp (fun _=>none) (.ownE _ _ _) (fun L h=>by simp at h) (fun h=>absurd rfl h) (fun o L h=>by simp at h)
 | sl _ els' b off c sz' cs ty cv Rs hb hcs hN hlc hsz hR hd hc hr =>
  obtain rfl:=IV.sl.inj hy
  have hszz:els ≠ [] → sz' = sz:=fun hne=>by
   obtain ⟨el,hel⟩:=List.exists_mem_of_ne_nil els hne
   rw [← hsz el hel,hsz0 el hel]
  by_cases hne:els = []
  ·subst hne
   by_cases hc0:c = 0
   ·subst hc0
    exact key ob sz hp (fun _=>none) (.ownE _ _ _) (fun L h=>by simp at h) (fun h=>absurd rfl h) (fun o L h=>by simp at h)
   ·-- an empty slice with room
    obtain ⟨ob',hp'⟩:=hp0 rfl sz'
    refine key ob' sz' hp' (fun o=>if o = 700000 then some ⟨b,off,sz',cs.size,0⟩ else none) ?_ (fun L h=>?_) (fun _=>by simp) (fun o L h=>?_)
    ·have:=RepA.own (F:=F) (w:=w) (ρ:=fun o=>if o = 700000 then some (⟨b,off,sz',cs.size,0⟩:Loc) else none) 700000 0 0 c ⟨b,off,sz',cs.size,0⟩ (by simp) (by simp) (Nat.zero_le _) (by simpa using hN)
     simpa using this
    ·rw [if_pos rfl] at h
     obtain rfl:=Option.some.inj h
     exact ⟨⟨rfl,rfl,by simp,by simp only [List.length_nil]; omega,cs,ty,hcs,rfl,fun e el j x he hx=>by simp at he⟩,hb⟩
    ·split at h
     ·assumption
     ·simp at h
  ·obtain rfl:=hszz hne
   refine key ob sz' hp (fun o=>if o = 700000 then some ⟨b,off,sz',cs.size,els.length⟩ else none) ?_ (fun L h=>?_) (fun _=>by simp) (fun o L h=>?_)
   ·have:=RepA.own (F:=F) (w:=w) (ρ:=fun o=>if o = 700000 then some (⟨b,off,sz',cs.size,els.length⟩:Loc) else none) 700000 0 els.length c ⟨b,off,sz',cs.size,els.length⟩ (by simp) (by simp) hlc (by simpa using hN)
    simpa using this
   ·rw [if_pos rfl] at h
    obtain rfl:=Option.some.inj h
    refine ⟨⟨rfl,rfl,hsz0, ?_,cs,ty,hcs,rfl,fun e el j x he hx=>⟨cv e j,hc e el j x he hx, ?_⟩⟩,hb⟩
    ·have:=Nat.mul_le_mul_right sz' hlc
     simp only; omega
    ·have hn:=hfl el (List.mem_of_getElem? he) x (List.mem_of_getElem? hx)
     exact (hr e el j x he hx).rep.of_flat (IV.num_flat hn)
   ·split at h
    ·assumption
    ·simp at h
theorem Fits.size_le {z:Base} {F0:Nat → Prop} {n:Nat} {st:St} {a:Act} {w:World} (h:Fits z F0 n st a w):z.w.heap.size ≤ w.heap.size:=by
 obtain ⟨F,ρ,hf⟩:=h; exact hf.below.size
theorem Fits.lt_of {z:Base} {F0:Nat → Prop} {n:Nat} {st:St} {a:Act} {w:World} (h:Fits z F0 n st a w) (b:Nat) (hb:F0 b):b < w.heap.size:=by
 obtain ⟨F,ρ,hf⟩:=h; exact hf.lt b (hf.sub b hb)
theorem Fits.below0 {w0:World} {F0:Nat → Prop} {n:Nat} {st:St} {a:Act} {w:World} (h:Fits (base0 w0) F0 n st a w):Below w0.heap.size w0 w:=by
 obtain ⟨F,ρ,hf⟩:=h; exact hf.below.to_below
end Go.Vai
namespace Go.Vai
def baseR (w:World) (R:Nat → Prop):Base:=⟨w,R,fun _=>none⟩
def Out (z0 z1:Base) (F1 Q:Nat → Prop):Prop:=∀ b,Q b → ¬ F1 b ∧ ¬ z1.mine b ∧ z0.mine b ∧ b < z1.w.heap.size
theorem Out.same {z0 z1:Base} {F1 Q:Nat → Prop} (h:Out z0 z1 F1 Q) {n:Nat} {st:St} {a:Act} {w:World} (hf:Fits z1 F1 n st a w) (b:Nat) (hb:Q b):w.heap[b]? = z1.w.heap[b]?:=by
 obtain ⟨F,ρ,hf⟩:=hf
 exact hf.below.block b (h b hb).2.1
theorem rawMark_wp {E:Env} {z0 z1:Base} {F0 F1:Nat → Prop} {n:Nat} {st:St} {a:Act} {w:World} (hx:Ctx E z1 F1) (hb:Back z0 F0 z1 F1) (hf:Fits z1 F1 n st a w) {Q:Nat → Prop} (hQ:Out z0 z1 F1 Q)
  {o:Oper} {d t1 t2:Nat} (hd:o.dst = some d) (hdn:d < n) {g:FuncId} {ts:Array TypeId} (hop:o.op = .call ⟨.value (.func g),#[.tmp t1,.tmp t2],ts⟩) {k r:Int} {v:Value} {y:AV} (h1:look st.T t1 = some (.i (.raw v))) (h2:look st.T t2 = some (.i (.int .i64 k))) (hpw:PW E g y k r) (ht:TRepA Q z1.w y v)
  (P:Exit → Act → World → Prop) :
  o.wp E.P a w (fun a' w'=>∃ z2 F2,z2.w = w' ∧ Ctx E z2 F2 ∧ Back z0 F0 z2 F2 ∧ Fits z2 F2 n ⟨(d,.i (.int .i64 r)) :: st.T,st.H⟩ a' w' ∧ (∀ Q',Out z0 z1 F1 Q' → Out z0 z2 F2 Q') ∧ (∀ Q' b,Out z0 z1 F1 Q' → Q' b → ¬ Q b → w'.heap[b]? = z1.w.heap[b]?)) P:=by
 have hsame:=fun Q' (h:Out z0 z1 F1 Q') b hb'=>h.same hf b hb'
 obtain ⟨F',ρ,h⟩:=hf
 have hv1:a.tmps.getD t1 undef = v:=by
  have:=h.tmps t1 _ h1
  generalize a.tmps.getD t1 undef = u at this
  cases this with | i _ _ h=>cases h; rfl
 have hv2:a.tmps.getD t2 undef = .int .i64 k:=(h.tmps t2 _ h2).int_inv
 have hrun:(execOp a.eval o).run E.P w = (callFunc g #[v,.int .i64 k]).run E.P w:=by
  unfold execOp; rw [hop]
  have e1:a.eval (.tmp t1) = v:=hv1
  have e2:a.eval (.tmp t2) = .int .i64 k:=hv2
  have e3:a.eval (.func g) = .func (.func g) #[] #[]:=rfl
  simp [resolve,Deferred.ofValue,invoke,e1,e2,e3]
 have hF':∀ b,F' b → ¬ Q b:=fun b hb' hq=>(h.sup b hb').elim (hQ b hq).1 (hQ b hq).2.1
 have hQlt:∀ b,Q b → b < w.heap.size:=fun b hq=>Nat.lt_of_lt_of_le (hQ b hq).2.2.2 h.below.size
 unfold Oper.wp
 rw [hrun,goes_run hpw.goes]
 show Calls E.P g #[v,.int .i64 k] w _
 refine (hpw.run F' Q w v (hx.glob.mono h.sub fun b hb'=>h.below.block b (hx.lt b hb')) h.lt hF' (ht.mono (fun _ h=>h) (hsame Q hQ)) hQlt).mono ?_
 rintro e w' ⟨rfl,hk⟩
 have hkeep:∀ b,b < w.heap.size → ¬ Q b → w'.heap[b]? = w.heap[b]?:=fun b hb' hr=>hk.block b fun hm=>hm.elim (fun h=>absurd hb' (Nat.not_lt.2 h)) hr
 have hFw:∀ b,F' b → w'.heap[b]? = w.heap[b]?:=fun b hb'=>hkeep b (h.lt b hb') (hF' b hb')
 have hblt:∀ o' ob' L1,look st.H o' = some ob' → ρ o' = some L1 → L1.b < w.heap.size:=by
  intro o' ob' L1 ho' hL
  obtain ⟨cs,ty,h3,-⟩:=(h.heap.obj o' ob' L1 ho' hL).1.at_
  exact (Array.getElem?_eq_some_iff.1 h3).1
 have hkz:z0.Kept w':=(hb.kept.trans_of hb.mine h.below).comp (fun b hq=>(hQ b hq).2.2.1) hk
 have hfit:Fit z0 F0 n ⟨(d,.i (.int .i64 r)) :: st.T,st.H⟩ (a.put o.dst (.int .i64 r)) w' F' ρ:=by
  refine ⟨⟨hkz,by rw [put_defers']; exact h.defers,by rw [put_size']; exact h.size,fun b hb'=>h.sub b (hb.sub b hb'),fun b hb'=>(h.sup b hb').elim (hb.sup b) fun hm=>.inr (hb.mine b hm),fun b hb'=>Nat.lt_of_lt_of_le (h.lt b hb') hk.size, ?_,⟨fun o' ob' L ho' hL=>?_,h.heap.sm,h.heap.apart⟩⟩,h.dom,fun o' h7 ho'=>(h.pin o' h7 ho').trans (hb.at_ o' h7)⟩
  ·refine fit_tmps (dst:=o.dst) (T:=st.T) (v:=.i (.int .i64 r)) (a:=a) (fun t u hu=>(h.tmps t u hu).mono (fun _ h=>h) hFw fun _ _ h=>h) (.i _ _ (.int _ _)) (fun d' hd'=>by rw [hd] at hd'; obtain rfl:=Option.some.inj hd'; rw [h.size]; exact hdn) |> fun hh=>by
    rw [hd] at hh ⊢; exact hh
  ·obtain ⟨q1,q2,q3⟩:=h.heap.obj o' ob' L ho' hL
   exact ⟨q1.mono (fun _ h=>h) hFw (hkeep _ (hblt o' ob' L ho' hL) fun hq=>(hQ _ hq).2.1 q2),hb.mine _ q2,q3⟩
 have hx0:Ctx E z0 F0 → Ctx E ⟨w',Dm ρ st.H,z0.at_⟩ F':=fun hx0=>(hfit.restart hx0).1
 have hctx:Ctx E ⟨w',Dm ρ st.H,z0.at_⟩ F':=⟨(hx.glob.mono h.sub fun b hb'=>h.below.block b (hx.lt b hb')).mono (fun _ h=>h) hFw,fun b hb' hm=>by
  rcases hm with hm | ⟨o',ob',L,g1,g2,rfl⟩
  ·exact absurd (Nat.lt_of_lt_of_le (h.lt b hb') hk.size) (Nat.not_lt.2 hm)
  ·exact (h.heap.obj o' ob' L g1 g2).2.2 hb'⟩
 refine ⟨⟨w',Dm ρ st.H,z0.at_⟩,F',rfl,hctx,⟨hkz,fun b hb'=>?_,hfit.sub,hfit.sup,fun _ _=>rfl⟩,⟨F',ρ,⟨⟨Base.Kept.refl _,hfit.defers,hfit.size,fun _ h=>h,fun _ h=>.inl h,hfit.lt,hfit.tmps,⟨fun o' ob' L g1 g2=>⟨(hfit.heap.obj o' ob' L g1 g2).1,.inr ⟨o',ob',L,g1,g2,rfl⟩,(hfit.heap.obj o' ob' L g1 g2).2.2⟩,hfit.heap.sm,hfit.heap.apart⟩⟩,hfit.dom,hfit.pin⟩⟩,fun Q' hQ' b hq=>?_,fun Q' b hQ' hq hn=>?_⟩
 ·rcases hb' with hb' | ⟨o',ob',L,g1,g2,rfl⟩
  ·exact .inl (Nat.le_trans hkz.size hb')
  ·exact (hfit.heap.obj o' ob' L g1 g2).2.1
 ·obtain ⟨q1,q2,q3,q4⟩:=hQ' b hq
  have hlt:b < w.heap.size:=Nat.lt_of_lt_of_le q4 h.below.size
  refine ⟨fun hF=>(h.sup b hF).elim q1 q2,fun hm=>?_,q3,Nat.lt_of_lt_of_le hlt hk.size⟩
  rcases hm with hm | ⟨o',ob',L,g1,g2,rfl⟩
  ·exact absurd (Nat.lt_of_lt_of_le hlt hk.size) (Nat.not_lt.2 hm)
  ·exact q2 (h.heap.obj o' ob' L g1 g2).2.1
 ·rw [← hsame Q' hQ' b hq]
  exact hkeep b (Nat.lt_of_lt_of_le (hQ' b hq).2.2.2 h.below.size) hn
theorem get0 (A B:Value) (m:Nat):(#[A,B] ++ Array.replicate m undef:Array Value).getD 0 undef = A:=by
 rw [Array.getD_eq_getD_getElem?,Array.getElem?_append,if_pos (by simp)]; rfl
theorem get1 (A B:Value) (m:Nat):(#[A,B] ++ Array.replicate m undef:Array Value).getD 1 undef = B:=by
 rw [Array.getD_eq_getD_getElem?,Array.getElem?_append,if_pos (by simp)]; rfl
theorem PC_sem {E:Env} (hE:E.Ok) {f:FuncId} {fn:Func} {c:Code} {args:List AV} {rs:List RV} (hf:E.P.funcs[f]? = some fn) (hb:fn.body = some c) (hg:goesB E.P f = true)
  (hn:args.length ≤ fn.ntmps) (h:∀ F w a,Ctx E (base0 w) F → Fits (base0 w) F fn.ntmps ⟨numT 0 args,[]⟩ a w → c.wp E.P (conc (base0 w) F fn.ntmps (retQ E fn rs)) a w):PC E f args rs:=by
 refine ⟨hg,fun F w cargs hG hlt hsz hrep=>?_⟩
 refine calls_of_wp hf hb ?_
 have hfit:Fits ⟨w,fun _=>False,fun _=>none⟩ F fn.ntmps ⟨numT 0 args,[]⟩ { tmps:=cargs ++ Array.replicate (fn.ntmps - cargs.size) undef,defers:=[] } w:=by
  refine ⟨F,fun _=>none,⟨⟨Base.Kept.refl _,rfl,by simp; omega,fun _ h=>h,fun _ h=>.inl h,hlt,fun t v hv=>?_,⟨fun o ob L h1=>by simp [look] at h1,fun o ob h1=>by simp [look] at h1,fun o o' ob ob' L L' h1=>by simp [look] at h1⟩⟩,fun o L h=>by simp at h,fun _ _ _=>rfl⟩⟩
  obtain ⟨-,h2⟩:=look_numT args 0 t v hv
  have h3:t < cargs.size:=by rw [hsz]; exact (List.getElem?_eq_some_iff.1 h2).1
  have h4:(cargs ++ Array.replicate (fn.ntmps - cargs.size) undef).getD t undef = cargs[t]:=by
   rw [Array.getD_eq_getD_getElem?,Array.getElem?_append,if_pos h3,Array.getElem?_eq_getElem h3]; rfl
  simp only
  rw [h4]
  exact hrep t v _ h2 (Array.getElem?_eq_getElem h3)
 have hmine:∀ b,(Base.mk w (fun _=>False) fun _=>none).mine b → w.heap.size ≤ b:=fun b hb=>hb.elim id False.elim
 refine wp_mono (h F w _ ⟨hG,fun b hb hm=>absurd (hlt b hb) (Nat.not_lt.2 (hmine b hm))⟩ hfit) ?_
 rintro e a w' ⟨st,hQ,F',ρ,hf'⟩
 have fin:RetX E fn rs st → a.defers = [] ∧ ∃ v,(results fn a.tmps).run E.P w' = .ok v w' ∧ ∃ vs F' ls,Ending.returned v = .returned (packV vs) ∧ Below w.heap.size w w' ∧ (∀ b,F b → F' b) ∧ (∀ b,F' b → F b ∨ w.heap.size ≤ b) ∧
   (∀ b,F' b → b < w'.heap.size) ∧ RepRs F' w.heap.size w' rs vs ls:=by
  rintro ⟨vs,h1,h2,h3⟩
  obtain ⟨us,g1,g2,g3⟩:=resV_run hE hf'.tmps (fun id ob L q1 q2=>(hf'.heap.obj id ob L q1 q2).1) h1
  refine ⟨hf'.defers,packV us, ?_, ?_⟩
  ·rw [results_eq,Array.mapM_eq_mapM_toList]
   simp only [Sem.run_bind,Sem.run_map,g1,Result.andThen_ok,Sem.run_pure]
   rw [packV_results]
  ·obtain ⟨ls,hls,-⟩:=retV_rep (B:=w.heap.size) (fun id ob L q1 q2=>⟨(hf'.heap.obj id ob L q1 q2).1,(hf'.heap.obj id ob L q1 q2).2.2⟩) hf'.heap.apart vs rs h3 (fun o ho=>ho) (nodupB_spec h2)
    (fun o ob L _ q1 q2=>hmine _ (hf'.heap.obj o ob L q1 q2).2.1) us g2 g3
   refine ⟨us,_,ls,rfl,hf'.below.to_below,fun b hb=>.inl (hf'.sub b hb),fun b hb=>?_,fun b hb=>?_,hls⟩
   ·rcases hb with hb | ⟨o,ob,L,q1,q2,rfl⟩
    ·exact (hf'.sup b hb).imp_right (hmine b)
    ·exact .inr (hmine _ (hf'.heap.obj o ob L (look_without q1).1 q2).2.1)
   ·rcases hb with hb | ⟨o,ob,L,q1,q2,rfl⟩
    ·exact hf'.lt b hb
    ·obtain ⟨cs,ty,q3,-⟩:=(hf'.heap.obj o ob L (look_without q1).1 q2).1.at_
     exact (Array.getElem?_eq_some_iff.1 q3).1
 cases e with
 | normal=>exact fin hQ
 | ret=>exact fin hQ
 | exit i=>exact hQ.elim
 | goto i=>exact hQ.elim
 | panic c=>exact hQ.elim
 | outgrown=>exact hQ.elim
theorem law_start {E:Env} (hE:E.Ok) {f:FuncId} {fn:Func} {c:Code} {rl:List ResultVar} {n:Nat} {args:List AV} {rs:List RV} (hf:E.P.funcs[f]? = some fn) (hb:fn.body = some c) (hr:fn.results.toList = rl) (hnt:fn.ntmps = n)
  (hg:goesB E.P f = true) (hn:args.length ≤ n) (h:∀ F w a,Ctx E (base0 w) F → Fits (base0 w) F n ⟨numT 0 args,[]⟩ a w → c.wp E.P (conc (base0 w) F n (retE E rl rs)) a w):PC E f args rs:=by
 subst hnt
 refine PC_sem hE hf hb hg hn ?_
 have e:retQ E fn rs = retE E rl rs:=by
  funext e s
  subst hr
  cases e <;> rfl
 rw [e]; exact h
end Go.Vai
namespace Go.Vai
structure Rows (E:Env) (w0:World) (F:Nat → Prop) (n:Nat) (els:List (List IV)) (S:List (List IV) → St) (k:Nat) (a:Act) (w:World) (z1:Base) (F1:Nat → Prop) (Rr:Nat → Nat → Prop) (rws:List (List IV)):Prop where
 ctx:Ctx E z1 F1
 back:Back (base0 w0) F z1 F1
 fits:Fits z1 F1 n (S rws) a w
 len:rws.length = k
 row:∀ (j:Nat) (row rw_:List IV),els[j]? = some row → rws[j]? = some rw_ → RowOk (Rr j) z1.w row rw_
 sub:∀ j b,Rr j b → F1 b ∧ w0.heap.size ≤ b
 dis:∀ j j' b,Rr j b → Rr j' b → j = j'
end Go.Vai
