/- Texts of this claim: Zv18. -/
import Derived.Test.YtiipeibaiphmpaaGreatDoorTv17
import Derived.Deep.Slices
import Derived.ChangeArms
import Derived.Carry
import Derived.WideShapes
import Derived.ChangeOld
set_option linter.unusedVariables false
set_option linter.unusedSimpArgs false
namespace Go.Vai
def fieldsT (T:TypeId → List IV → Prop):List (Nat × TypeId) → List IV → Prop
 | [],cs=>cs = []
 | (_,t) :: fs,cs=>∃ a b,cs = a ++ b ∧ T t a ∧ fieldsT T fs b
def Typed (E:Env):Nat → TypeId → List IV → Prop
 | 0,_,_=>False
 | n + 1,t,cells=>match tkOf E t with
  | some .bool=>∃ b,cells = [.bool b]
  | some (.int k)=>∃ z,cells = [.int k z] ∧ (Lit.int k z).wf = true
  | some .string=>∃ s,cells = [.str s] ∧ s.size ≤ maxLen
  | some (.slice e)=>∃ els,cells = [.sl els] ∧ els.length ≤ maxLen ∧ ∀ el ∈ els,Typed E n e el
  | some (.struct fs)=>fieldsT (Typed E n) fs cells
  | _=>False
def RepL (F:Nat → Prop) (w:World) (ivs:List IV) (cs:List Value):Prop :=
 ivs.length = cs.length ∧ ∀ (j:Nat) (x:IV) (v:Value),ivs[j]? = some x → cs[j]? = some v → Rep F w x v
def sizeOfT (E:Env) (t:TypeId):Nat:=match E.τ t with
 | some i=>i.size
 | none=>0
def offsB (E:Env):Nat → List (Nat × TypeId) → Nat → Bool
 | k,[],n=>k == n
 | k,(o,t) :: fs,n=>o == k && offsB E (k + sizeOfT E t) fs n
def layB (E:Env) (ts:List TypeId) (t:TypeId):Bool:=match E.τ t with
 | some i=>match i.k with
  | .bool | .int _ | .string=>true
  | .slice e=>ts.contains e && sizeOfT E e != 0
  | .struct fs=>fs.all (fun f=>ts.contains f.2) && offsB E 0 fs i.size
  | _=>false
 | none=>false
theorem RepL.nil {F:Nat → Prop} {w:World}:RepL F w [] []:=⟨rfl,fun j x v h=>by simp at h⟩
theorem RepL.one {F:Nat → Prop} {w:World} {x:IV} {v:Value} (h:Rep F w x v):RepL F w [x] [v]:=by
 refine ⟨rfl,fun j y u h1 h2=>?_⟩
 cases j with
 | zero=>simp at h1 h2; subst h1; subst h2; exact h
 | succ j=>simp at h1
theorem RepL.append {F:Nat → Prop} {w:World} {a b:List IV} {c d:List Value} (h1:RepL F w a c) (h2:RepL F w b d):RepL F w (a ++ b) (c ++ d):=by
 refine ⟨by simp [h1.1,h2.1],fun j x v hx hv=>?_⟩
 by_cases hj:j < a.length
 ·rw [List.getElem?_append_left hj] at hx
  rw [List.getElem?_append_left (by rw [← h1.1]; exact hj)] at hv
  exact h1.2 j x v hx hv
 ·rw [List.getElem?_append_right (by omega)] at hx
  rw [List.getElem?_append_right (by rw [← h1.1]; omega),← h1.1] at hv
  exact h2.2 _ x v hx hv
section
variable {H:Type} {enc:TypeId × Value → H} {E:Env} {w:World} {base:Nat} {spare:Nat → Bool} {held:Bool}
theorem cellsOf_of {P:Program} {t:TypeId} {i:TyI} (h:TyOk P t i):P.cellsOf t = i.size:=by
 obtain ⟨inf,h1,h2,-⟩:=h.info
 simp [Program.cellsOf,h1,h2]
theorem cellsOf_E (hE:E.Ok) {t:TypeId} (h:(E.τ t).isSome = true):E.P.cellsOf t = sizeOfT E t:=by
 cases hq:E.τ t with
 | none=>rw [hq] at h; simp at h
 | some i=>rw [cellsOf_of (hE.ty t i hq)]; simp [sizeOfT,hq]
theorem tkOf_of {t:TypeId} {i:TyI} (h:E.τ t = some i):tkOf E t = some i.k:=by simp [tkOf,h]
theorem read_fields (hE:E.Ok) {T:TypeId → List IV → Prop} {F:Nat → Prop} {cs:List Value} {n:Nat} (hcs:cs.length = n):∀ (fs:List (Nat × TypeId)) (k:Nat),k ≤ n → offsB E k fs n = true → (∀ f ∈ fs,(E.τ f.2).isSome = true) →
  (∀ f ∈ fs,∃ ivs,T f.2 ivs ∧ RepL F w ivs ((cs.drop f.1).take (E.P.cellsOf f.2))) → ∃ ivs,fieldsT T fs ivs ∧ RepL F w ivs (cs.drop k)
 | [],k,hk,ho,_,_=>by
  simp only [offsB,beq_iff_eq] at ho
  exact ⟨[],rfl,by rw [List.drop_of_length_le (by omega)]; exact .nil⟩
 | (o,t) :: fs,k,hk,ho,hs,h=>by
  simp only [offsB,Bool.and_eq_true,beq_iff_eq] at ho
  obtain ⟨rfl,ho⟩:=ho
  obtain ⟨a,ha,hra⟩:=h (o,t) (List.mem_cons_self ..)
  have hsz:E.P.cellsOf t = sizeOfT E t:=cellsOf_E hE (hs (o,t) (List.mem_cons_self ..))
  have hle:∀ (fs:List (Nat × TypeId)) (k:Nat),offsB E k fs n = true → k ≤ n:=by
   intro fs
   induction fs with
   | nil=>intro k hk; simp only [offsB,beq_iff_eq] at hk; omega
   | cons f fs ih=>intro k hk; simp only [offsB,Bool.and_eq_true] at hk; have:=ih _ hk.2; omega
  obtain ⟨b,hb,hrb⟩:=read_fields hE hcs fs (o + sizeOfT E t) (hle _ _ ho) ho (fun f hf=>hs f (List.mem_cons_of_mem _ hf)) (fun f hf=>h f (List.mem_cons_of_mem _ hf))
  refine ⟨a ++ b,⟨a,b,rfl,ha,hb⟩, ?_⟩
  have:cs.drop o = (cs.drop o).take (E.P.cellsOf t) ++ cs.drop (o + sizeOfT E t):=by
   rw [hsz,← List.drop_drop,List.take_append_drop]
  rw [this]
  exact hra.append hrb
theorem read_data (hE:E.Ok) {ts:List TypeId} (hts:ts.all (layB E ts) = true):∀ (fuel:Nat) (t:TypeId) (cs:List Value) (x:DataW H × List MemPlace),t ∈ ts →
  DataW.trod enc E.P w base spare held fuel t cs = some x → ∃ ivs,Typed E fuel t ivs ∧ RepL (fun b=>b < w.heap.size) w ivs cs
 | 0,t,cs,x,_,h=>by simp [DataW.trod] at h
 | fuel + 1,t,cs,x,ht,h=>by
  have hl:=List.all_eq_true.1 hts t ht
  unfold layB at hl
  split at hl
  ·rename_i i hi
   have hk:=tkOf_of hi
   obtain ⟨d,hd,hfit,-⟩:=(hE.ty t i hi).und
   split at hl
   ·rename_i hik
    rw [hik] at hk hfit
    cases d <;> (try (exact hfit.elim))
    unfold DataW.trod at h
    rw [hd] at h
    split at h <;> (try (simp_all; done))
    rename_i b _
    exact ⟨[.bool b],by simp only [Typed,hk]; exact ⟨b,rfl⟩,.one (.bool b)⟩
   ·rename_i k hik
    rw [hik] at hk hfit
    cases d <;> (try (exact hfit.elim))
    unfold DataW.trod at h
    rw [hd] at h
    split at h <;> (try (simp_all; done))
    rename_i k1 n he hke _
    split at h
    ·rename_i hq
     obtain ⟨rfl,hw⟩:=hq
     rename_i hke
     simp only [Option.some.injEq,TypeDesc.int.injEq] at hke
     simp only [TK.fits] at hfit
     rw [hfit,hke] at hk
     exact ⟨[.int _ _],by simp only [Typed,hk]; exact ⟨_,rfl,hw⟩,.one (.int _ _)⟩
    ·simp at h
   ·rename_i hik
    rw [hik] at hk hfit
    cases d <;> (try (exact hfit.elim))
    unfold DataW.trod at h
    rw [hd] at h
    split at h <;> (try (simp_all; done))
    rename_i s _
    split at h
    ·rename_i hq
     exact ⟨[.str s],by simp only [Typed,hk]; exact ⟨s,rfl,hq⟩,.one (.str s)⟩
    ·simp at h
   ·rename_i e hik
    rw [hik] at hk hfit
    cases d <;> (try (exact hfit.elim))
    simp only [TK.fits] at hfit
    subst hfit
    simp only [Bool.and_eq_true,bne_iff_ne,List.contains_iff_mem] at hl
    have hes:(E.τ e).isSome = true:=by
     have:=List.all_eq_true.1 hts e hl.1
     unfold layB at this
     split at this
     ·rename_i q; rw [q]; rfl
     ·simp at this
    have hsz:=cellsOf_E hE hes
    rcases DataW.trod_slice hd h with ⟨rfl,-⟩ | ⟨a,len,cap,elems,rest,n,hn,rfl,rfl,hb,hlc,hm,hlen,hel,-⟩
    ·exact ⟨[.sl []],by simp only [Typed,hk]; exact ⟨[],rfl,by simp [maxLen],fun el hel=>by simp at hel⟩,.one (.slE _ _)⟩
    ·obtain rfl:fuel = n:=by omega
     have hget:∀ i,i < len → ∃ ivs,Typed E fuel e ivs ∧ ivs.length = sizeOfT E e ∧ (∀ j,j < sizeOfT E e → ∃ v,w.cell? ((a.add (i * sizeOfT E e)).add j) = some v ∧ ∀ y,ivs[j]? = some y → Rep (fun b=>b < w.heap.size) w y v):=by
      intro i hi
      have h1:=hel i hi
      rw [List.getElem?_eq_getElem (by omega),hsz] at h1
      obtain ⟨cs',h2,h3⟩:=Option.bind_eq_some_iff.1 h1
      obtain ⟨ivs,h4,h5⟩:=read_data hE hts fuel e cs' _ hl.1 h3
      obtain ⟨-,h6,h7⟩:=World.cells?_some h2
      refine ⟨ivs,h4,by rw [h5.1,h6],fun j hj=>?_⟩
      have h8:=h7 j hj
      rw [List.getElem?_eq_getElem (by omega)] at h8
      exact ⟨_,h8,fun y hy=>h5.2 j y _ hy (List.getElem?_eq_getElem (by omega))⟩
     cases len with
     | zero=>exact ⟨[.sl []],by simp only [Typed,hk]; exact ⟨[],rfl,by simp [maxLen],fun el hel=>by simp at hel⟩,.one (.slE _ _)⟩
     | succ len =>
      obtain ⟨G,hG⟩:=Deep.choose_lt hget
      obtain ⟨-,-,h0⟩:=hG 0 (by omega)
      obtain ⟨v0,hv0,-⟩:=h0 0 (by omega)
      simp only [Nat.zero_mul] at hv0
      have hsp:a.spot = none ∧ a.block < w.heap.size:=by
       simp only [Addr.add,if_pos] at hv0
       unfold World.cell? at hv0
       split at hv0
       ·rename_i hh
        split at hv0
        ·simp at hv0
        ·rename_i hq; exact ⟨by simpa using hq,(Array.getElem?_eq_some_iff.1 hh).1⟩
       ·simp at hv0
      obtain ⟨b,off,sp⟩:=a
      obtain ⟨h1,h2⟩:=hsp
      simp only at h1 h2
      subst h1
      have hadd:∀ o m,(⟨b,o,none⟩:Addr).add m = ⟨b,o + m,none⟩:=by
       intro o m; unfold Addr.add; split
       ·rename_i hm0; subst hm0; rfl
       ·rfl
      refine ⟨[.sl ((List.range (len + 1)).map G)], ?_,.one ?_⟩
      ·simp only [Typed,hk]
       refine ⟨_,rfl,by simp; omega,fun el hel=>?_⟩
       obtain ⟨i,hi,rfl⟩:=List.mem_map.1 hel
       exact (hG i (List.mem_range.1 hi)).1
      ·have hL:((List.range (len + 1)).map G).length = len + 1:=by simp
       have:=Rep.sl (F:=fun b=>b < w.heap.size) (w:=w) ((List.range (len + 1)).map G) b off cap (sizeOfT E e) (fun i j=>(w.cell? ⟨b,off + i * sizeOfT E e + j,none⟩).getD default) h2 (by rw [hL]; exact hlc)
        (fun el hel=>by obtain ⟨i,hi,rfl⟩:=List.mem_map.1 hel; exact (hG i (List.mem_range.1 hi)).2.1) ?_ ?_
       ·rw [hL] at this; exact this
       all_goals
        intro i el j y hi hy
        have hi':i < len + 1:=by have:=(List.getElem?_eq_some_iff.1 hi).1; simpa using this
        obtain rfl:G i = el:=by simpa [hi'] using hi
        obtain ⟨-,hl2,h3⟩:=hG i hi'
        have hj:j < sizeOfT E e:=by have:=(List.getElem?_eq_some_iff.1 hy).1; omega
        obtain ⟨v,hv,hr⟩:=h3 j hj
        rw [hadd,hadd] at hv
        rw [hv]
       ·rfl
       ·exact hr y hy
   ·rename_i fs hik
    rw [hik] at hk hfit
    cases d <;> (try (exact hfit.elim))
    rename_i gs
    simp only [TK.fits] at hfit
    simp only [Bool.and_eq_true,List.all_eq_true,List.contains_iff_mem] at hl
    obtain ⟨xs,n,hn,-,hcs,hxl,hf⟩:=DataW.trod_struct hd h
    obtain rfl:fuel = n:=by omega
    rw [cellsOf_of (hE.ty t i hi)] at hcs
    have hsome:∀ f ∈ fs,(E.τ f.2).isSome = true:=by
     intro f hf
     have:=List.all_eq_true.1 hts _ (hl.1 f hf)
     unfold layB at this
     split at this
     ·rename_i q; rw [q]; rfl
     ·simp at this
    obtain ⟨ivs,h1,h2⟩:=read_fields (w:=w) (F:=fun b=>b < w.heap.size) (T:=Typed E fuel) hE hcs fs 0 (Nat.zero_le _) hl.2 hsome (fun f hfm=>by
     rw [hfit] at hfm
     obtain ⟨g,hg,rfl⟩:=List.mem_map.1 hfm
     obtain ⟨q,hq,hgq⟩:=List.getElem_of_mem hg
     have hgs:gs[q]? = some g:=by rw [← hgq]; simp
     have h3:=hf q g hgs
     have hlen:q < xs.length:=by
      rw [hxl]; simp at hq ⊢; exact hq
     rw [List.getElem?_eq_getElem hlen] at h3
     exact read_data hE hts fuel g.type _ _ (hl.1 _ (by rw [hfit]; exact hfm)) h3)
    exact ⟨ivs,by simp only [Typed,hk]; exact h1,by simpa using h2⟩
   ·simp at hl
  ·simp at hl
def ArgsT (E:Env):List TypeId → List AV → Prop
 | [],[]=>True
 | t :: ts,a :: as=>(match tkOf E t with
  | some (.struct _)=>∃ n cells,a = .agg cells ∧ Typed E n t cells
  | _=>∃ n x,a = .i x ∧ Typed E n t [x]) ∧ ArgsT E ts as
 | _,_=>False
theorem arg_read (hE:E.Ok) {ts:List TypeId} (hts:ts.all (layB E ts) = true) {r:Reach} {b0:Nat} {t:TypeId} {v:Value} {d:DataW H} {p:List MemPlace} (ht:t ∈ ts)
  (hok:Value.okWide E.P w r b0 t v) (h:DataW.Trod enc E.P w base spare held t v d p) :
  ∃ a,(match tkOf E t with
  | some (.struct _)=>∃ n cells,a = .agg cells ∧ Typed E n t cells
  | _=>∃ n x,a = .i x ∧ Typed E n t [x]) ∧ RepA (fun b=>b < w.heap.size) (fun _=>none) w a v:=by
 obtain ⟨fuel,hf⟩:=h
 obtain ⟨ivs,h1,h2⟩:=read_data hE hts fuel t _ _ ht hf
 have hl:=List.all_eq_true.1 hts t ht
 unfold layB at hl
 split at hl
 ·rename_i i hi
  have hk:=tkOf_of hi
  obtain ⟨u,hd,hfit,-⟩:=(hE.ty t i hi).und
  have one:∀ {v:Value},v.cells = #[v] → RepL (fun b=>b < w.heap.size) w ivs v.cells.toList → ∃ x,ivs = [x] ∧ Rep (fun b=>b < w.heap.size) w x v:=by
   intro v hv hr
   rw [hv] at hr
   match ivs,hr.1 with
   | [x],_=>exact ⟨x,rfl,hr.2 0 x v rfl rfl⟩
  split at hl
  all_goals (try (simp at hl; done))
  ·rename_i hik
   rw [hik] at hk hfit
   cases u <;> (try (exact hfit.elim))
   obtain ⟨b,rfl⟩:=WideShapes.okWide_bool hd hok
   obtain ⟨x,rfl,hx⟩:=one rfl h2
   exact ⟨.i x,by rw [hk]; exact ⟨fuel,x,rfl,h1⟩,.i x _ hx⟩
  ·rename_i hik
   rw [hik] at hk hfit
   cases u <;> (try (exact hfit.elim))
   obtain ⟨b,rfl⟩:=WideShapes.okWide_int hd hok
   obtain ⟨x,rfl,hx⟩:=one rfl h2
   exact ⟨.i x,by rw [hk]; exact ⟨fuel,x,rfl,h1⟩,.i x _ hx⟩
  ·rename_i hik
   rw [hik] at hk hfit
   cases u <;> (try (exact hfit.elim))
   obtain ⟨b,rfl⟩:=WideShapes.okWide_string hd hok
   obtain ⟨x,rfl,hx⟩:=one rfl h2
   exact ⟨.i x,by rw [hk]; exact ⟨fuel,x,rfl,h1⟩,.i x _ hx⟩
  ·rename_i hik
   rw [hik] at hk hfit
   cases u <;> (try (exact hfit.elim))
   obtain ⟨_,_,_,rfl⟩:=WideShapes.okWide_slice hd hok
   obtain ⟨x,rfl,hx⟩:=one rfl h2
   exact ⟨.i x,by rw [hk]; exact ⟨fuel,x,rfl,h1⟩,.i x _ hx⟩
  ·rename_i hik
   rw [hik] at hk hfit
   cases u <;> (try (exact hfit.elim))
   simp only [Value.okWide,hd] at hok
   obtain ⟨cs,rfl,-,-⟩:=hok
   refine ⟨.agg ivs,by rw [hk]; exact ⟨fuel,ivs,rfl,h1⟩,.agg ivs cs ?_ ?_⟩
   ·have:=h2.1; simpa [Value.cells] using this.symm
   ·intro j x v hx hv
    exact h2.2 j x v hx (by simpa [Value.cells] using hv)
 ·simp at hl
theorem args_read (hE:E.Ok) {ts:List TypeId} (hts:ts.all (layB E ts) = true) {r:Reach} {b0:Nat}:∀ (us:List TypeId) (vs:List Value) (ds:List (DataW H)) (p:List MemPlace),(∀ t ∈ us,t ∈ ts) →
  (∀ (j:Nat) t v,us[j]? = some t → vs[j]? = some v → Value.okWide E.P w r b0 t v) → DataW.TrodAll enc E.P w base spare held us vs ds p →
  ∃ as,ArgsT E us as ∧ as.length = vs.length ∧ ∀ (j:Nat) (x:AV) (v:Value),as[j]? = some x → vs[j]? = some v → RepA (fun b=>b < w.heap.size) (fun _=>none) w x v
 | [],[],[],p,_,_,_=>⟨[],trivial,rfl,fun j x v h=>by simp at h⟩
 | t :: us,v :: vs,d :: ds,p,hm,hok,h=>by
  obtain ⟨p1,q,h1,h2,-⟩:=h
  obtain ⟨a,ha,hra⟩:=arg_read hE hts (hm t (List.mem_cons_self ..)) (hok 0 t v rfl rfl) h1
  obtain ⟨as,has,hl,hr⟩:=args_read hE hts us vs ds q (fun t ht=>hm t (List.mem_cons_of_mem _ ht)) (fun j t v h1 h2=>hok (j + 1) t v (by simpa using h1) (by simpa using h2)) h2
  refine ⟨a :: as,⟨ha,has⟩,by simp [hl],fun j x u hx hu=>?_⟩
  cases j with
  | zero=>simp at hx hu; subst hx; subst hu; exact hra
  | succ j=>exact hr j x u (by simpa using hx) (by simpa using hu)
 | [],[],_ :: _,p,_,_,h=>h.elim
 | [],_ :: _,_,p,_,_,h=>h.elim
 | _ :: _,[],_,p,_,_,h=>h.elim
 | _ :: _,_ :: _,[],p,_,_,h=>h.elim
theorem args_again {P:Program} (hl:laidOutB P = true) {W W':World} (hb:Below W.heap.size W W'):∀ (us:List TypeId) (vs:List Value) (ds:List (DataW H)) (p:List MemPlace),
  us.all (fun t=>P.readableRec t && decide (t < P.types.size)) = true → DataW.TrodAll enc P W 0 (fun _=>true) true us vs ds p → DataW.TrodAll enc P W' 0 (fun b=>decide (b < W.heap.size)) true us vs ds p
 | [],[],[],p,_,h=>h
 | t :: us,v :: vs,d :: ds,p,hr,h=>by
  simp only [List.all_cons,Bool.and_eq_true,decide_eq_true_eq] at hr
  obtain ⟨p1,q,h1,h2,e⟩:=h
  have lt:∀ x ∈ p1,x.block < W.heap.size:=by obtain ⟨m,hm⟩:=h1; exact DataW.trod_lt m _ _ _ hm
  exact ⟨p1,q,Go.RowKit.Below.trod hl hr.1.1 hr.1.2 h1 hb.kit lt,args_again hl hb us vs ds q hr.2 h2,e⟩
 | [],[],_ :: _,p,_,h=>h.elim
 | [],_ :: _,_,p,_,h=>h.elim
 | _ :: _,[],_,p,_,h=>h.elim
 | _ :: _,_ :: _,[],p,_,h=>h.elim
theorem repR_true {F:Nat → Prop} {B:Nat} {w:World} {l:Option Loc} {v:Value} (h:RepR F B w l (.i (.bool true)) v):v = .bool true:=by
 cases h with
 | i l x v h=>cases h; rfl
end
theorem PC.imm {E:Env} {f:FuncId} {args:List AV} {sz:Nat} {els:List (List IV)} (h:PC E f args [.own sz els]):PC E f args [.i (.sl els)]:=by
 refine ⟨h.goes,fun F w cargs hG hF hs hr=>(h.run F w cargs hG hF hs hr).mono fun e w' ⟨vs,F',ls,he,hb,h1,h2,h3,hrep⟩=>?_⟩
 have hl:=hrep.len
 match vs,hl with
 | [v],_ =>
  have h0:=hrep.rep 0 _ v rfl rfl
  generalize ls 0 = l at h0
  cases h0 with
  | ownE sz a=>exact ⟨[_],F',fun _=>none,he,hb,h1,h2,h3,rfl,fun k r u hk hu=>by
    cases k with
    | zero=>simp at hk hu; subst hk; subst hu; exact .i _ _ _ (.slE _ _)
    | succ k=>simp at hk,fun _ _ _ _ _ _ h=>by simp at h⟩
  | own sz els L c ho hB hFL hlc hN =>
   have hsub:∀ b,F' b → (F' b ∨ b = L.b):=fun b hb=>.inl hb
   have hlt:L.b < w'.heap.size:=by
    obtain ⟨cs,ty,hat,-⟩:=ho.at_
    exact (Array.getElem?_eq_some_iff.1 hat).1
   refine ⟨[_],fun b=>F' b ∨ b = L.b,fun _=>none,he,hb,fun b hb=>.inl (h1 b hb),fun b hb=>?_,fun b hb=>?_,rfl,fun k r u hk hu=>?_,fun _ _ _ _ _ _ h=>by simp at h⟩
   ·rcases hb with hb | rfl
    ·exact h2 b hb
    ·exact .inr hB
   ·rcases hb with hb | rfl
    ·exact h3 b hb
    ·exact hlt
   ·cases k with
    | succ k=>simp at hk
    | zero =>
     simp at hk hu; subst hk; subst hu
     exact .i _ _ _ (Rep.of_els (sz:=sz) (.inr rfl) hlc (fun el he=>ho.len el he) (fun i el he=>by
      have:=(ho.cells he).mono hsub (fun _ _=>rfl) rfl
      rw [ho.sz] at this; exact this))
theorem exists_map {α β:Type} (f:α → β):∀ (l:List β),(∀ x ∈ l,∃ a,x = f a) → ∃ as:List α,l = as.map f
 | [],_=>⟨[],rfl⟩
 | x :: l,h=>by
  obtain ⟨a,rfl⟩:=h x (List.mem_cons_self ..)
  obtain ⟨l',rfl⟩:=exists_map f l fun y hy=>h y (List.mem_cons_of_mem _ hy)
  exact ⟨a :: l',rfl⟩
end Go.Vai
