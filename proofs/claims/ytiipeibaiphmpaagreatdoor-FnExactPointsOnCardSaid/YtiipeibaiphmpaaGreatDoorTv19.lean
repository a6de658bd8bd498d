/- Texts of this claim: Zv19. -/
import Derived.Test.YtiipeibaiphmpaaGreatDoorTv18
import Derived.OpenShut
import Derived.LaidLaws
import Derived.FnData
import Derived.Stop.LaidErr
set_option linter.unusedVariables false
set_option linter.unusedSimpArgs false
namespace Go.Vai
mutual
def litI {H:Type}:DataW H → Option (List IV)
 | .lit (.int k z)=>some [.int k z]
 | .lit (.bool b)=>some [.bool b]
 | .agg ps=>litL ps
 | _=>none
def litL {H:Type}:List (DataW H) → Option (List IV)
 | []=>some []
 | d :: l=>match litI d,litL l with
  | some a,some b=>some (a ++ b)
  | _,_=>none
end
def layL (E:Env) (ts:List TypeId) (t:TypeId):Bool:=match E.τ t with
 | some i=>match i.k with
  | .bool | .int _=>i.size == 1
  | .struct fs=>fs.all (fun f=>ts.contains f.2) && offsB E 0 fs i.size
  | .arr n e=>ts.contains e && n * sizeOfT E e == i.size
  | _=>false
 | none=>false
section
variable {H:Type} {enc:TypeId × Value → H} {E:Env} {w:World} {base:Nat} {spare:Nat → Bool} {held:Bool}
theorem layL_some {ts:List TypeId} (hts:ts.all (layL E ts) = true) {t:TypeId} (ht:t ∈ ts):(E.τ t).isSome = true:=by
 have:=List.all_eq_true.1 hts _ ht
 unfold layL at this
 split at this
 ·rename_i q; rw [q]; rfl
 ·simp at this
theorem lit_fields (hE:E.Ok) {F:Nat → Prop} {cs:List Value} {n:Nat} (hcs:cs.length = n):∀ (fs:List (Nat × TypeId)) (k:Nat),k ≤ n → offsB E k fs n = true → (∀ f ∈ fs,(E.τ f.2).isSome = true) →
  ∀ (xs:List (DataW H × List MemPlace)),xs.length = fs.length →
  (∀ (i:Nat) f x ivs,fs[i]? = some f → xs[i]? = some x → litI x.1 = some ivs → RepL F w ivs ((cs.drop f.1).take (E.P.cellsOf f.2))) → ∀ ivs,litL (xs.map (·.1)) = some ivs → RepL F w ivs (cs.drop k)
 | [],k,hk,ho,_,xs,hx,_,ivs,hl=>by
  simp only [offsB,beq_iff_eq] at ho
  obtain rfl:xs = []:=List.eq_nil_of_length_eq_zero hx
  obtain rfl:=Option.some.inj hl
  rw [List.drop_of_length_le (by omega)]; exact .nil
 | (o,t) :: fs,k,hk,ho,hs,xs,hx,h,ivs,hl=>by
  simp only [offsB,Bool.and_eq_true,beq_iff_eq] at ho
  obtain ⟨rfl,ho⟩:=ho
  match xs,hx with
  | x :: xs,hx =>
   simp only [List.map_cons,litL] at hl
   split at hl
   ·rename_i a b ha hb
    obtain rfl:=Option.some.inj hl
    have hra:=h 0 (o,t) x a rfl rfl ha
    have hsz:E.P.cellsOf t = sizeOfT E t:=cellsOf_E hE (hs (o,t) (List.mem_cons_self ..))
    have hle:∀ (fs:List (Nat × TypeId)) (k:Nat),offsB E k fs n = true → k ≤ n:=by
     intro fs
     induction fs with
     | nil=>intro k hk; simp only [offsB,beq_iff_eq] at hk; omega
     | cons f fs ih=>intro k hk; simp only [offsB,Bool.and_eq_true] at hk; have:=ih _ hk.2; omega
    have hrb:=lit_fields hE hcs fs (o + sizeOfT E t) (hle _ _ ho) ho (fun f hf=>hs f (List.mem_cons_of_mem _ hf)) xs (by simpa using hx)
     (fun i f x ivs h1 h2 h3=>h (i + 1) f x ivs (by simpa using h1) (by simpa using h2) h3) b hb
    have:cs.drop o = (cs.drop o).take (E.P.cellsOf t) ++ cs.drop (o + sizeOfT E t):=by
     rw [hsz,← List.drop_drop,List.take_append_drop]
    rw [this]
    exact hra.append hrb
   ·simp at hl
theorem offs_arr (e:TypeId):∀ (m k n:Nat),k + m * sizeOfT E e = n → offsB E k ((List.range m).map fun i=>(k + i * sizeOfT E e,e)) n = true
 | 0,k,n,h=>by simp [offsB]; omega
 | m + 1,k,n,h=>by
  rw [List.range_succ_eq_map]
  simp only [List.map_cons,List.map_map,offsB,Bool.and_eq_true,beq_iff_eq]
  refine ⟨by omega, ?_⟩
  have:=offs_arr e m (k + sizeOfT E e) n (by rw [← h,Nat.add_mul]; omega)
  have he:List.map ((fun i=>(k + i * sizeOfT E e,e)) ∘ Nat.succ) (List.range m) = List.map (fun i=>(k + sizeOfT E e + i * sizeOfT E e,e)) (List.range m):=by
   refine List.map_congr_left fun i _=>?_
   simp only [Function.comp,Prod.mk.injEq,and_true]
   rw [Nat.succ_eq_add_one,Nat.add_mul]; omega
  rw [he]; exact this
theorem read_lit (hE:E.Ok) {ts:List TypeId} (hts:ts.all (layL E ts) = true) {F:Nat → Prop}:∀ (fuel:Nat) (t:TypeId) (cs:List Value) (x:DataW H × List MemPlace),t ∈ ts →
  DataW.trod enc E.P w base spare held fuel t cs = some x → ∀ ivs,litI x.1 = some ivs → RepL F w ivs cs
 | 0,t,cs,x,_,h=>by simp [DataW.trod] at h
 | fuel + 1,t,cs,x,ht,h=>by
  intro ivs hlit
  have hl:=List.all_eq_true.1 hts t ht
  unfold layL at hl
  split at hl
  ·rename_i i hi
   have hk:=tkOf_of hi
   obtain ⟨d,hd,hfit,-⟩:=(hE.ty t i hi).und
   split at hl
   ·rename_i hik
    rw [hik] at hk hfit
    cases d <;> (try (exact hfit.elim))
    unfold DataW.trod at h
    rw [hd] at h
    split at h <;> (try (simp_all; done))
    rename_i b _
    simp at h
    subst h
    obtain rfl:=Option.some.inj hlit
    exact .one (.bool b)
   ·rename_i k hik
    rw [hik] at hk hfit
    cases d <;> (try (exact hfit.elim))
    obtain ⟨n,rfl,rfl,-⟩:=DataW.trod_int hd h
    obtain rfl:=Option.some.inj hlit
    exact .one (.int _ _)
   ·rename_i fs hik
    rw [hik] at hk hfit
    cases d <;> (try (exact hfit.elim))
    rename_i gs
    simp only [TK.fits] at hfit
    simp only [Bool.and_eq_true,List.all_eq_true,List.contains_iff_mem] at hl
    obtain ⟨xs,n,hn,rfl,hcs,hxl,hf⟩:=DataW.trod_struct hd h
    obtain rfl:fuel = n:=by omega
    rw [cellsOf_of (hE.ty t i hi)] at hcs
    have hsome:∀ f ∈ fs,(E.τ f.2).isSome = true:=fun f hf=>layL_some hts (hl.1 f hf)
    have:=lit_fields (w:=w) (F:=F) hE hcs fs 0 (Nat.zero_le _) hl.2 hsome xs (by rw [hfit]; simp [hxl]) (fun q f y ivs h1 h2 h3=>by
     rw [hfit] at h1
     simp only [List.getElem?_map,Option.map_eq_some_iff] at h1
     obtain ⟨g,hg,rfl⟩:=h1
     have h4:=hf q g (by simpa using hg)
     rw [h2] at h4
     have hmem:(g.offset,g.type) ∈ fs:=by rw [hfit]; exact List.mem_map.2 ⟨g,List.mem_of_getElem? hg,rfl⟩
     exact read_lit hE hts fuel g.type _ _ (hl.1 _ hmem) h4 ivs h3) ivs (by simpa [litI] using hlit)
    simpa using this
   ·rename_i n e hik
    rw [hik] at hk hfit
    cases d <;> (try (exact hfit.elim))
    simp only [TK.fits] at hfit
    obtain ⟨rfl,rfl⟩:=hfit
    simp only [Bool.and_eq_true,List.contains_iff_mem,beq_iff_eq] at hl
    obtain ⟨xs,m,hn,rfl,hcs,hxl,hf⟩:=DataW.trod_array hd h
    obtain rfl:fuel = m:=by omega
    rw [cellsOf_of (hE.ty t i hi)] at hcs
    have hes:=layL_some hts hl.1
    have hsz:=cellsOf_E hE hes
    have:=lit_fields (w:=w) (F:=F) hE hcs ((List.range n).map fun i=>(0 + i * sizeOfT E e,e)) 0 (Nat.zero_le _) (offs_arr e n 0 i.size (by omega)) (fun f hf=>by
     obtain ⟨i,-,rfl⟩:=List.mem_map.1 hf; exact hes) xs (by simp [hxl]) (fun q f y ivs h1 h2 h3=>by
     simp only [List.getElem?_map,Option.map_eq_some_iff] at h1
     obtain ⟨g,hg,rfl⟩:=h1
     have hq:q < n:=by have:=(List.getElem?_eq_some_iff.1 hg).1; simpa using this
     obtain rfl:g = q:=by simpa [hq] using hg.symm
     have h4:=hf g hq
     rw [h2,hsz] at h4
     simp only [Nat.zero_add,hsz]
     exact read_lit hE hts fuel e _ _ hl.1 h4 ivs h3) ivs (by simpa [litI] using hlit)
    simpa using this
   ·simp at hl
  ·simp at hl
end
theorem laid_var {E:Env} (hE:E.Ok) {ts:List TypeId} (hts:ts.all (layL E ts) = true) {F:Nat → Prop} {w:World} {name:String} {d:DataW Unit} {rest:List (String × DataW Unit)} {g:Nat} {t:TypeId} {ivs:List IV}
  (hg:E.P.globalNamed name = some g) (hty:(E.P.globals[g]?).map (·.type) = some t) (ht:t ∈ ts) (hl:litI d = some ivs) (h:laidMet E.P ((name,d) :: rest) w) (hF:F g) :
  Rep F w (.ptr ivs) (.pointer (some ⟨g,0,none⟩)):=by
 obtain ⟨ps,⟨g',t',cs,fuel,p,q,hg',ht',hvar,hd,_,_⟩,_⟩:=h
 obtain rfl:=Option.some.inj (hg.symm.trans hg')
 obtain rfl:=Option.some.inj (hty.symm.trans ht')
 have hr:=read_lit (F:=F) hE hts fuel t cs.toList (d,p) ht hd ivs hl
 refine .ptr ivs g 0 (fun j=>cs.getD j default) hF (fun j x hx=>?_) (fun j x hx=>?_)
 all_goals have hj:j < cs.size:=by have:=(List.getElem?_eq_some_iff.1 hx).1; have h2:=hr.1; simp at h2; omega
 ·rw [World.var?_cell hg hvar,Nat.zero_add,Array.getElem?_eq_getElem hj,Array.getD_eq_getD_getElem?,Array.getElem?_eq_getElem hj]; rfl
 ·refine hr.2 j x _ hx ?_
  rw [Array.getD_eq_getD_getElem?,Array.getElem?_toList,Array.getElem?_eq_getElem hj]; rfl
theorem vars_again {H:Type} {enc:TypeId × Value → H} {P:Program} (hl:laidOutB P = true) {W W':World} (hb:Below W.heap.size W W'):∀ (ns:List String) (gs:List (DataW H)) (q:List MemPlace),
  (ns.all fun n=>match (P.globalNamed n).bind fun g=>(P.globals[g]?).map (·.type) with
   | some t=>P.readableRec t && decide (t < P.types.size)
   | none=>true) = true → DataW.TrodVars enc P W (fun _=>true) ns gs q → DataW.TrodVars enc P W' (fun b=>decide (b < W.heap.size)) ns gs q
 | [],[],q,_,h=>h
 | n :: ns,d :: gs,ps,hr,h=>by
  simp only [List.all_cons,Bool.and_eq_true] at hr
  obtain ⟨g,t,cs,fuel,p,q,h1,h2,h3,h4,h5,e⟩:=h
  have hr1:=hr.1
  rw [h1] at hr1
  simp only [Option.bind_some,h2,Bool.and_eq_true,decide_eq_true_eq] at hr1
  have hlt:g < W.heap.size:=by
   simp only [World.var?,h1,Option.bind_some] at h3
   split at h3
   ·rename_i hh; exact (Array.getElem?_eq_some_iff.1 hh).1
   ·simp at h3
  have hvar:W'.var? P n = some cs:=by
   simp only [World.var?,h1,Option.bind_some] at h3 ⊢
   rw [hb.block g hlt]; exact h3
  have lt:∀ x ∈ p,x.block < W.heap.size:=DataW.trod_lt fuel _ _ _ h4
  have ht:DataW.Trod enc P W 0 (fun _=>true) true t (.agg cs) d p:=⟨fuel,h4⟩
  obtain ⟨fuel',h6⟩:=Go.RowKit.Below.trod hl hr1.1 hr1.2 ht hb.kit lt
  exact ⟨g,t,cs,fuel',p,q,h1,h2,hvar,h6,vars_again hl hb ns gs q hr.2 h5,e⟩
 | [],_ :: _,q,_,h=>h.elim
 | _ :: _,[],q,_,h=>h.elim
theorem calls_of_PCG {E:Env} {f:FuncId} {as:List AV} (h:PC E f as [.i (.bool true)]) (W:World) (hG:GRep E (fun b=>b < W.heap.size) W) (args:Array Value) (hs:args.size = as.length)
  (hr:∀ (j:Nat) (x:AV) (v:Value),as[j]? = some x → args[j]? = some v → RepA (fun b=>b < W.heap.size) (fun _=>none) W x v) :
  Calls E.P f args W fun e W'=>e = .returned (.bool true) ∧ Below W.heap.size W W':=by
 refine (h.run (fun b=>b < W.heap.size) W args hG (fun b hb=>hb) hs hr).mono fun e W' ⟨vs,F',ls,he,hbel,_,_,_,hrep⟩=>?_
 refine ⟨?_,hbel⟩
 subst he
 have hl:=hrep.len
 match vs,hl with
 | [v],_ =>
  rw [show v = .bool true from repR_true (hrep.rep 0 _ v rfl rfl)]
  rfl
theorem laid_lt {P:Program} {w:World} {name:String} {d:DataW Unit} {rest:List (String × DataW Unit)} {g:Nat} (hg:P.globalNamed name = some g) (h:laidMet P ((name,d) :: rest) w):g < w.heap.size:=by
 obtain ⟨ps,⟨g',t',cs,fuel,p,q,hg',ht',hvar,hd,_,_⟩,_⟩:=h
 simp only [World.var?,hg,Option.bind_some] at hvar
 split at hvar
 ·rename_i hh; exact (Array.getElem?_eq_some_iff.1 hh).1
 ·simp at hvar
end Go.Vai
