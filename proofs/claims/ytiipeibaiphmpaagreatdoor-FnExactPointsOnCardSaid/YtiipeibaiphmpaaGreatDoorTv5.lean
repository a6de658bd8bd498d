/- Texts of this claim: Zv5. -/
import Derived.Test.YtiipeibaiphmpaaGreatDoorTv4
set_option linter.unusedVariables false
set_option linter.unusedSimpArgs false
namespace Go.Vai
def cellsOf:AV → Option (List IV)
 | .agg cells=>some cells
 | .i x=>some [x]
 | .esl=>some [.sl []]
 | _=>none
theorem cellsOf_rep {F:Nat → Prop} {ρ:Locs} {w:World} {va:AV} {v:Value} {cells:List IV} (h:RepA F ρ w va v) (hc:cellsOf va = some cells) :
  v.cells.size = cells.length ∧ ∀ (j:Nat) (x:IV) (u:Value),cells[j]? = some x → v.cells[j]? = some u → Rep F w x u:=by
 unfold cellsOf at hc
 split at hc
 ·obtain rfl:=Option.some.inj hc
  cases h with | agg _ cs hs hr=>exact ⟨hs,hr⟩
 ·rename_i x
  obtain rfl:=Option.some.inj hc
  cases h with | i _ v h =>
  have hv:v.cells = #[v]:=by
   cases h <;> first | rfl | (rename_i hv; cases v <;> first | rfl | simp [Value.oneCell'] at hv)
  rw [hv]
  refine ⟨rfl,fun j y u=>?_⟩
  cases j with
  | zero=>simp; rintro rfl rfl; exact h
  | succ j=>simp
 ·obtain rfl:=Option.some.inj hc
  cases h with | esl ad =>
  refine ⟨rfl,fun j y u=>?_⟩
  cases j with
  | zero=>simp [Value.cells]; rintro rfl rfl; exact .slE _ _
  | succ j=>simp
 ·simp at hc
def splice (l:List IV) (off:Nat) (c:List IV):List IV:=l.take off ++ c ++ l.drop (off + c.length)
def buildA (E:Env) (T:List (Nat × AV)) (places:Nat → Option (Nat × Nat)):List IV → List (Nat × Operand) → Option (List IV)
 | l,[]=>some l
 | l,(f,x) :: ps=>match places f with
  | some (off,n)=>match evA E T x with
   | some v=>match cellsOf v with
    | some c=>if c.length = n ∧ off + c.length ≤ l.length then buildA E T places (splice l off c) ps else none
    | none=>none
   | none=>none
  | none=>none
def ArrRep (F:Nat → Prop) (w:World) (l:List IV) (cs:Array Value):Prop :=
 cs.size = l.length ∧ ∀ (j:Nat) (x:IV) (u:Value),l[j]? = some x → cs[j]? = some u → Rep F w x u
theorem foldl_set_size (off:Nat):∀ (l:List (Value × Nat)) (cs:Array Value),(l.foldl (fun cs (c,j)=>cs.setIfInBounds (off + j) c) cs).size = cs.size
 | [],cs=>rfl
 | (c,j) :: l,cs=>by simp [foldl_set_size off l]
theorem foldl_set_get (off:Nat):∀ (l:List Value) (s:Nat) (cs:Array Value) (p:Nat),off + s + l.length ≤ cs.size →
  ((l.zipIdx s).foldl (fun cs (c,j)=>cs.setIfInBounds (off + j) c) cs)[p]? = if off + s ≤ p ∧ p < off + s + l.length then l[p - (off + s)]? else cs[p]?
 | [],s,cs,p,_=>by
  rw [if_neg (by simp)]; rfl
 | c :: l,s,cs,p,h=>by
  simp only [List.zipIdx_cons,List.foldl_cons,List.length_cons] at h ⊢
  rw [foldl_set_get off l (s + 1) _ p (by simp; omega)]
  by_cases h1:off + (s + 1) ≤ p ∧ p < off + (s + 1) + l.length
  ·rw [if_pos h1,if_pos (by omega),show p - (off + s) = (p - (off + (s + 1))) + 1 by omega,List.getElem?_cons_succ]
  ·rw [if_neg h1]
   by_cases h2:p = off + s
   ·subst h2
    rw [if_pos (by omega)]
    rw [Array.getElem?_setIfInBounds,if_pos rfl,if_pos (by omega)]
    simp
   ·rw [if_neg (by omega),Array.getElem?_setIfInBounds,if_neg (by omega)]
theorem splice_get (l:List IV) (off:Nat) (c:List IV) (h:off + c.length ≤ l.length) (p:Nat) :
  (splice l off c)[p]? = if off ≤ p ∧ p < off + c.length then c[p - off]? else l[p]?:=by
 unfold splice
 have h1:(l.take off).length = off:=by simp; omega
 rw [List.append_assoc,List.getElem?_append,h1]
 by_cases hp:p < off
 ·rw [if_pos hp,if_neg (by omega),List.getElem?_take,if_pos hp]
 ·rw [if_neg hp,List.getElem?_append]
  by_cases hq:p - off < c.length
  ·rw [if_pos hq,if_pos (by omega)]
  ·rw [if_neg hq,if_neg (by omega),List.getElem?_drop]
   congr 1; omega
theorem ArrRep.splice {F:Nat → Prop} {w:World} {l c:List IV} {cs ds:Array Value} {off:Nat} (h:ArrRep F w l cs) (hc:ArrRep F w c ds) (hn:off + c.length ≤ l.length) :
  ArrRep F w (Vai.splice l off c) (ds.zipIdx.foldl (fun cs (c,j)=>cs.setIfInBounds (off + j) c) cs):=by
 have e:ds.zipIdx.foldl (fun cs (c,j)=>cs.setIfInBounds (off + j) c) cs = (ds.toList.zipIdx 0).foldl (fun cs (c,j)=>cs.setIfInBounds (off + j) c) cs:=by
  rw [← Array.foldl_toList]; congr 1; simp
 rw [e]
 refine ⟨?_,fun j x u hx hu=>?_⟩
 ·rw [foldl_set_size,h.1]; unfold Vai.splice; simp; omega
 ·have hd:ds.toList.length = c.length:=by simpa using hc.1
  rw [splice_get l off c hn] at hx
  rw [foldl_set_get off ds.toList 0 cs j (by have:=h.1; omega)] at hu
  simp only [Nat.add_zero,hd] at hu
  split at hx
  ·rename_i hj
   rw [if_pos hj] at hu
   exact hc.2 (j - off) x u hx (by simpa using hu)
  ·rename_i hj
   rw [if_neg hj] at hu
   exact h.2 j x u hx hu
theorem fill_rep {E:Env} {F:Nat → Prop} {ρ:Locs} {T:List (Nat × AV)} {H:List (Nat × Obj)} {o:Oper} {a:Act} {w:World} (hp:Pre E F ρ T H o a w) (places:Nat → Option (Nat × Nat)) :
  ∀ (ps:List (Nat × Operand)) (l:List IV) (cs:Array Value) (r:List IV),(∀ p ∈ ps,p.2 ∈ o.op.operands) → ArrRep F w l cs → buildA E T places l ps = some r →
   ∃ ds,Instr.fill places cs (ps.map fun p=>(p.1,a.eval p.2)) = some ds ∧ ArrRep F w r ds
 | [],l,cs,r,_,h,hr=>by
  obtain rfl:=Option.some.inj hr
  exact ⟨cs,rfl,h⟩
 | (f,x) :: ps,l,cs,r,hm,h,hr=>by
  simp only [buildA] at hr
  split at hr
  ·rename_i off n hpl
   split at hr
   ·rename_i v hv
    split at hr
    ·rename_i c hc
     split at hr
     ·rename_i hn
      have hx:=hp.ev (hm (f,x) (by simp)) hv
      obtain ⟨h1,h2⟩:=cellsOf_rep hx hc
      have hs:=h.splice ⟨h1,h2⟩ hn.2
      obtain ⟨ds,hd,hrep⟩:=fill_rep hp places ps _ _ r (fun p hp=>hm p (by simp [hp])) hs hr
      refine ⟨ds, ?_,hrep⟩
      simp only [List.map_cons,Instr.fill,hpl]
      rw [if_neg]
      ·exact hd
      ·have:=h.1
       simp only [Bool.or_eq_true,decide_eq_true_eq,not_or] at h1 ⊢
       have e1:(a.eval (f,x).snd).cells.size = c.length:=h1
       omega
     ·simp at hr
    ·simp at hr
   ·simp at hr
  ·simp at hr
def structPlaces (E:Env) (fs:List (Nat × TypeId)) (f:Nat):Option (Nat × Nat) :=
 match fs[f]? with
 | some (off,t)=>match E.τ t with
  | some i=>some (off,i.size)
  | none=>none
 | none=>none
def allTy (E:Env) (fs:List (Nat × TypeId)):Bool:=fs.all fun p=>(E.τ p.2).isSome
def buildV (E:Env) (T:List (Nat × AV)) (t:TypeId) (ps:List (Nat × Operand)):Option AV :=
 match E.τ t with
 | some i=>match i.k with
  | .struct fs=>if i.zero = [] then none else if allTy E fs = true then (buildA E T (structPlaces E fs) i.zero ps).map .agg else none
  | _=>none
 | none=>none
theorem zero_rep {E:Env} (hE:E.Ok) {t:TypeId} {i:TyI} (h:E.τ t = some i) (h0:i.zero ≠ []) (F:Nat → Prop) (w:World) :
  ∃ z,(zeroValue t).run E.P w = .ok z w ∧ ArrRep F w i.zero z.cells ∧ z.cells = (i.zero.map IV.toV).toArray:=by
 obtain ⟨inf,h1,-,-,h4⟩:=(hE.ty t i h).info
 obtain ⟨h5,z,h6,h7⟩:=h4 h0
 refine ⟨z,by simp [zeroValue,typeInfo,h1,h6],⟨by simp [h7],fun j x u hx hu=>?_⟩,h7⟩
 rw [h7] at hu
 simp only [List.getElem?_toArray,List.getElem?_map,hx,Option.map_some,Option.some.injEq] at hu
 subst hu
 exact Rep.toV (h5 x (List.mem_of_getElem? hx))
theorem mapM_sizes {E:Env} (hE:E.Ok) {w:World}:∀ (gs:List Field),(∀ g ∈ gs,(E.τ g.type).isSome = true) →
  (gs.mapM (m:=Sem) fun f=>do pure (f.offset,← sizeOf f.type)).run E.P w = .ok (gs.map fun g=>(g.offset,((E.τ g.type).map (·.size)).getD 0)) w
 | [],_=>by simp
 | g :: gs,h=>by
  obtain ⟨i,hi⟩:=Option.isSome_iff_exists.1 (h g (by simp))
  simp only [List.mapM_cons,Sem.run_bind,size_run hE hi,Result.andThen_ok,Sem.run_pure,mapM_sizes hE gs fun g hg=>h g (by simp [hg]),List.map_cons,hi,Option.map_some,Option.getD_some]
theorem buildV_run {E:Env} (hE:E.Ok) {F:Nat → Prop} {ρ:Locs} {T:List (Nat × AV)} {H:List (Nat × Obj)} {o:Oper} {a:Act} {w:World} (hp:Pre E F ρ T H o a w) {t:TypeId}
  {ps:Array (Nat × Operand)} (hm:∀ p ∈ ps.toList,p.2 ∈ o.op.operands) {r:AV} (h:buildV E T t ps.toList = some r) :
  ∃ v,RepA F ρ w r v ∧ (Instr.build t (ps.map fun p=>(p.1,a.eval p.2))).run E.P w = .ok v w:=by
 unfold buildV at h
 split at h
 ·rename_i i hi
  split at h
  ·rename_i fs hk
   split at h
   ·simp at h
   ·rename_i h0
    split at h
    ·rename_i hall
     obtain ⟨l,hl,rfl⟩:=Option.map_eq_some_iff.1 h
     obtain ⟨d,h1,h2,-⟩:=und_run hE hi (w:=w)
     rw [hk] at h2
     cases d <;> simp [TK.fits] at h2
     rename_i gs
     obtain ⟨z,hz,hzr,-⟩:=zero_rep hE hi h0 F w
     obtain ⟨ds,hd,hrep⟩:=fill_rep hp _ ps.toList i.zero z.cells l hm hzr hl
     refine ⟨.agg ds,.agg _ _ hrep.1 hrep.2, ?_⟩
     have hsome:∀ g ∈ gs.toList,(E.τ g.type).isSome = true:=by
      intro g hg
      have:=List.all_eq_true.1 hall (g.offset,g.type) (by rw [h2]; exact List.mem_map.2 ⟨g,hg,rfl⟩)
      simpa using this
     have hsz:=mapM_sizes hE (w:=w) gs.toList hsome
     have hplaces:(fun f=>(gs.map fun g=>(g.offset,((E.τ g.type).map (·.size)).getD 0))[f]?) = structPlaces E fs:=by
      funext f
      unfold structPlaces
      rw [h2]
      simp only [Array.getElem?_map,List.getElem?_map,Array.getElem?_toList]
      cases hg:gs[f]? with
      | none=>simp
      | some g =>
       obtain ⟨i',hi'⟩:=Option.isSome_iff_exists.1 (hsome g (by simpa using Array.mem_of_getElem? hg))
       simp [hi']
     unfold Instr.build
     simp only [Sem.run_bind,hz,h1,Result.andThen_ok]
     rw [Array.mapM_eq_mapM_toList]
     simp only [Sem.run_map,hsz,Result.andThen_ok]
     have e2:(ps.map fun p=>(p.1,a.eval p.2)).toList = ps.toList.map fun p=>(p.1,a.eval p.2):=by simp
     rw [e2]
     have e3:(fun f=>((gs.toList.map fun g=>(g.offset,((E.τ g.type).map (·.size)).getD 0)).toArray)[f]?) = structPlaces E fs:=by
      rw [← hplaces]; funext f; simp
     rw [e3,hd]
     rfl
    ·simp at h
  ·simp at h
 ·simp at h
end Go.Vai
