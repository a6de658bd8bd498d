/- Texts of this claim: Zv5b. -/
import Derived.Test.YtiipeibaiphmpaaGreatDoorTv5
import Derived.Laws.StructEq
set_option linter.unusedVariables false
set_option linter.unusedSimpArgs false
namespace Go.Vai
def cmpB (P : Program) (t : TypeId) : Bool := !P.stoodInHeld t && (P.fieldsOf t).all fun f => f.name != "_"
def cmpTop (P:Program) (t:TypeId):Bool:=!P.eqGuardType P.depth t
def partA (E:Env) (cells:List IV) (o:Nat) (u:TypeId):Option AV:=match E.τ u with
 | some i=>if o + i.size ≤ cells.length then valOf i.k ((cells.drop o).take i.size) else none
 | none=>none
def eqFs (E:Env) (g:TypeId → AV → AV → Option Bool) (a b:List IV):List (Nat × TypeId) → Option Bool
 | []=>some true
 | (o,u) :: fs=>match partA E a o u,partA E b o u with
  | some x,some y=>match g u x y,eqFs E g a b fs with
   | some r,some s=>some (r && s)
   | _,_=>none
  | _,_=>none
def eqA (E:Env):Nat → TypeId → AV → AV → Option Bool
 | 0,_,_,_=>none
 | d + 1,t,x,y=>match tkOf E t with
  | some .bool=>match x,y with
   | .i (.bool p),.i (.bool q)=>some (p == q)
   | _,_=>none
  | some (.int _)=>match x,y with
   | .i (.int k a),.i (.int k' b)=>if k = k' then some (decide (a = b)) else none
   | _,_=>none
  | some .string=>match x,y with
   | .i (.str a),.i (.str b)=>some (a == b)
   | _,_=>none
  | some (.struct fs)=>match x,y with
   | .agg a,.agg b=>if cmpB E.P t = true then eqFs E (eqA E d) a b fs else none
   | _,_=>none
  | _=>none
def eqOp (E:Env) (op:BinOp) (t:TypeId) (a b:List IV):Option AV :=
 if cmpTop E.P t = true then match op with
  | .eql=>(eqA E 9 t (.agg a) (.agg b)).map fun r=>.i (.bool r)
  | .neq=>(eqA E 9 t (.agg a) (.agg b)).map fun r=>.i (.bool (!r))
  | _=>none
 else none
theorem RepA.agg_inv {F:Nat → Prop} {ρ:Locs} {w:World} {a:List IV} {v:Value} (h:RepA F ρ w (.agg a) v) :
  ∃ cs,v = .agg cs ∧ cs.size = a.length ∧ ∀ (j:Nat) (x:IV) (u:Value),a[j]? = some x → cs[j]? = some u → Rep F w x u:=by
 cases h with | agg cells cs hs hr=>exact ⟨cs,rfl,hs,hr⟩
theorem eqFs_run {E:Env} (hE:E.Ok) {F:Nat → Prop} {ρ:Locs} {w:World} {g:TypeId → AV → AV → Option Bool} {D:Nat}
  (ih:∀ u x y r v v',g u x y = some r → RepA F ρ w x v → RepA F ρ w y v' → (Op.equalIn D u v v').run E.P w = .ok r w)
  {a b:List IV} {xs ys:Array Value} (hxs:xs.size = a.length) (hx:∀ (j:Nat) (x:IV) (u:Value),a[j]? = some x → xs[j]? = some u → Rep F w x u)
  (hys:ys.size = b.length) (hy:∀ (j:Nat) (x:IV) (u:Value),b[j]? = some x → ys[j]? = some u → Rep F w x u) :
  ∀ (fs : List Field) (r : Bool), (∀ f ∈ fs, f.name ≠ "_") → eqFs E g a b (fs.map fun f => (f.offset, f.type)) = some r → (Op.eqFields D xs ys fs).run E.P w = .ok r w
 | [],r,_,h=>by simp [eqFs] at h; subst h; simp [Op.eqFields]
 | f :: fs,r,hn,h=>by
  simp only [List.map_cons,eqFs] at h
  split at h
  ·rename_i x y hpx hpy
   split at h
   ·rename_i r1 s1 hr1 hs1
    obtain rfl:=Option.some.inj h
    have part:∀ {c:List IV} {cs:Array Value} {z:AV},cs.size = c.length → (∀ (j:Nat) (x:IV) (u:Value),c[j]? = some x → cs[j]? = some u → Rep F w x u) → partA E c f.offset f.type = some z →
      ∃ v,RepA F ρ w z v ∧ (part f.type cs f.offset).run E.P w = .ok v w:=by
     intro c cs z h1 h2 h3
     unfold partA at h3
     split at h3
     ·rename_i i hi
      split at h3
      ·rename_i hle; exact part_run hE hi h1 h2 hle h3
      ·simp at h3
     ·simp at h3
    obtain ⟨v,hv,hrun⟩:=part hxs hx hpx
    obtain ⟨v',hv',hrun'⟩:=part hys hy hpy
    have he:=ih _ _ _ _ _ _ hr1 hv hv'
    have hrest:=eqFs_run hE ih hxs hx hys hy fs s1 (fun f hf=>hn f (List.mem_cons_of_mem _ hf)) hs1
    rw [Op.eqFields]
    simp only [if_pos (hn f (List.mem_cons_self ..)),Sem.run_bind,hrun,hrun',he,Result.andThen_ok]
    cases r1
    ·simp
    ·simpa using hrest
   ·simp at h
  ·simp at h
theorem eqA_run {E:Env} (hE:E.Ok) {F:Nat → Prop} {ρ:Locs} {w:World}:∀ (d D:Nat) (t:TypeId) (x y:AV) (r:Bool) (v v':Value),d ≤ D → eqA E d t x y = some r → RepA F ρ w x v → RepA F ρ w y v' →
  (Op.equalIn D t v v').run E.P w = .ok r w
 | 0,D,t,x,y,r,v,v',_,h,_,_=>by simp [eqA] at h
 | d + 1,0,t,x,y,r,v,v',hd,_,_,_=>by omega
 | d + 1,D + 1,t,x,y,r,v,v',hd,h,hv,hv'=>by
  simp only [eqA] at h
  split at h
  ·rename_i hk
   obtain ⟨u,h1,h2,-⟩:=tk_und hE hk w
   cases u <;> (try (exact h2.elim))
   split at h
   ·obtain rfl:=hv.bool_inv; obtain rfl:=hv'.bool_inv
    obtain rfl:=Option.some.inj h
    simp only [Op.equalIn,Sem.run_bind,h1,Result.andThen_ok,Sem.run_pure]
   ·simp at h
  ·rename_i q hk
   obtain ⟨u,h1,h2,-⟩:=tk_und hE hk w
   cases u <;> (try (exact h2.elim))
   split at h
   ·obtain rfl:=hv.int_inv; obtain rfl:=hv'.int_inv
    split at h
    ·rename_i hkk
     obtain rfl:=Option.some.inj h
     simp only [Op.equalIn,Sem.run_bind,h1,Result.andThen_ok,if_pos hkk,Sem.run_pure]
     rename_i n kq m
     by_cases hnm:n = m <;> simp [hnm]
    ·simp at h
   ·simp at h
  ·rename_i hk
   obtain ⟨u,h1,h2,-⟩:=tk_und hE hk w
   cases u <;> (try (exact h2.elim))
   split at h
   ·obtain rfl:=hv.str_inv; obtain rfl:=hv'.str_inv
    obtain rfl:=Option.some.inj h
    simp only [Op.equalIn,Sem.run_bind,h1,Result.andThen_ok,Sem.run_pure]
   ·simp at h
  ·rename_i fs hk
   obtain ⟨i,hi,hik⟩:=Option.map_eq_some_iff.1 hk
   obtain ⟨u,h1,h2,-⟩:=(hE.ty t i hi).und
   rw [hik] at h2
   cases u <;> (try (exact h2.elim))
   rename_i gs
   simp only [TK.fits] at h2
   split at h
   ·obtain ⟨xs,rfl,hxs,hx⟩:=hv.agg_inv
    obtain ⟨ys,rfl,hys,hy⟩:=hv'.agg_inv
    split at h
    ·rename_i hc
     simp only [cmpB,Bool.and_eq_true,Bool.not_eq_true'] at hc
     have hf:E.P.fieldsOf t = gs:=by simp [Program.fieldsOf,h1]
     rw [run_equalIn_struct w D t xs ys (by rw [hf]; exact h1) hc.1,hf]
     rw [h2] at h
     refine eqFs_run (ρ:=ρ) hE (fun u x y r v v' h1 h2 h3=>eqA_run hE d D u x y r v v' (by omega) h1 h2 h3) hxs hx hys hy gs.toList r (fun f hf'=>?_) h
     rw [hf] at hc
     obtain ⟨q,hq,hfq⟩:=List.getElem_of_mem hf'
     have h5:=hc.2
     rw [Array.all_eq_true] at h5
     have:=h5 q (by simpa using hq)
     simp only [bne_iff_ne] at this
     rw [← hfq]; simpa using this
    ·simp at h
   ·simp at h
  ·simp at h
theorem eqOp_run {E:Env} (hE:E.Ok) {F:Nat → Prop} {ρ:Locs} {w:World} {op:BinOp} {t:TypeId} {x y:Operand} {a b:List IV} {va vb:Value} {r:AV}
  (ha:RepA F ρ w (.agg a) va) (hb:RepA F ρ w (.agg b) vb) (h:eqOp E op t a b = some r) :
  ∃ q:Bool,r = .i (.bool q) ∧ ((eqGuard op t x y va vb >>= fun _=>binOp op t va vb):Sem Value).run E.P w = .ok (.bool q) w:=by
 unfold eqOp at h
 split at h
 ·rename_i hc
  simp only [cmpTop,Bool.not_eq_true'] at hc
  split at h
  ·obtain ⟨q,hq,rfl⟩:=Option.map_eq_some_iff.1 h
   have he:=eqA_run hE 9 Op.maxDepth t _ _ q _ _ (by decide) hq ha hb
   obtain ⟨xs,rfl,-⟩:=ha.agg_inv
   obtain ⟨ys,rfl,-⟩:=hb.agg_inv
   refine ⟨q,rfl, ?_⟩
   simp [eqGuard,binOp,hc,Op.equal,he]
  ·obtain ⟨q,hq,rfl⟩:=Option.map_eq_some_iff.1 h
   have he:=eqA_run hE 9 Op.maxDepth t _ _ q _ _ (by decide) hq ha hb
   obtain ⟨xs,rfl,-⟩:=ha.agg_inv
   obtain ⟨ys,rfl,-⟩:=hb.agg_inv
   refine ⟨!q,rfl, ?_⟩
   simp [eqGuard,binOp,hc,Op.equal,he]
  ·simp at h
 ·simp at h
end Go.Vai
