/- Texts of this claim: Zv3. -/
import Derived.Test.YtiipeibaiphmpaaGreatDoorTv2
set_option linter.unusedVariables false
set_option linter.unusedSimpArgs false
namespace Go.Vai
def CellsRep (F:Nat → Prop) (w:World) (b off:Nat) (cells:List IV):Prop :=
 ∀ (j:Nat) (x:IV),cells[j]? = some x → ∃ v,w.cell? ⟨b,off + j,none⟩ = some v ∧ Rep F w x v
theorem add_plain (b off n:Nat):(⟨b,off,none⟩:Addr).add n = ⟨b,off + n,none⟩:=by
 unfold Addr.add; split
 ·rename_i h; subst h; rfl
 ·rfl
theorem CellsRep.drop {F:Nat → Prop} {w:World} {b off:Nat} {cells:List IV} (h:CellsRep F w b off cells) (n:Nat):CellsRep F w b (off + n) (cells.drop n):=by
 intro j x hx
 rw [List.getElem?_drop] at hx
 have:=h (n + j) x hx
 rwa [← Nat.add_assoc] at this
theorem CellsRep.take {F:Nat → Prop} {w:World} {b off:Nat} {cells:List IV} (h:CellsRep F w b off cells) (n:Nat):CellsRep F w b off (cells.take n):=by
 intro j x hx
 rw [List.getElem?_take] at hx
 split at hx
 ·exact h j x hx
 ·simp at hx
theorem CellsRep.mono {F F':Nat → Prop} {w w':World} {b off:Nat} {cells:List IV} (hF:∀ b,F b → F' b) (hw:∀ b,F b → w'.heap[b]? = w.heap[b]?) (hb:w'.heap[b]? = w.heap[b]?)
  (h:CellsRep F w b off cells):CellsRep F' w' b off cells:=by
 intro j x hx
 obtain ⟨v,h1,h2⟩:=h j x hx
 exact ⟨v,by rw [cell_of_heap hb]; exact h1,h2.mono hF hw⟩
theorem Rep.ptr_cells {F:Nat → Prop} {w:World} {cells:List IV} {v:Value} (h:Rep F w (.ptr cells) v) :
  ∃ b off,v = .pointer (some ⟨b,off,none⟩) ∧ F b ∧ CellsRep F w b off cells:=by
 cases h with
 | ptr _ b off cv hF hc hr=>exact ⟨b,off,rfl,hF,fun j x hx=>⟨cv j,hc j x hx,hr j x hx⟩⟩
theorem Rep.of_cells {F:Nat → Prop} {w:World} {cells:List IV} {b off:Nat} (hF:F b) (h:CellsRep F w b off cells):Rep F w (.ptr cells) (.pointer (some ⟨b,off,none⟩)):=by
 refine .ptr cells b off (fun j=>(w.cell? ⟨b,off + j,none⟩).getD undef) hF (fun j x hx=>?_) (fun j x hx=>?_)
 ·obtain ⟨v,h1,h2⟩:=h j x hx; simp [h1]
 ·obtain ⟨v,h1,h2⟩:=h j x hx; simpa [h1] using h2
theorem Rep.sl_inv {F:Nat → Prop} {w:World} {els:List (List IV)} {v:Value} (h:Rep F w (.sl els) v) :
  (els = [] ∧ ∃ a c,v = .slice a 0 c) ∨ ∃ b off c sz,v = .slice (some ⟨b,off,none⟩) els.length c ∧ F b ∧ els.length ≤ c ∧ (∀ el ∈ els,el.length = sz) ∧
   ∀ (i:Nat) el,els[i]? = some el → CellsRep F w b (off + i * sz) el:=by
 cases h with
 | slE a c=>exact .inl ⟨rfl,a,c,rfl⟩
 | sl _ b off c sz cv hF hlc hsz hc hr=>exact .inr ⟨b,off,c,sz,rfl,hF,hlc,hsz,fun i el hi j x hx=>⟨cv i j,hc i el j x hi hx,hr i el j x hi hx⟩⟩
theorem Rep.of_els {F:Nat → Prop} {w:World} {els:List (List IV)} {b off c sz:Nat} (hF:F b) (hlc:els.length ≤ c) (hsz:∀ el ∈ els,el.length = sz)
  (h:∀ (i:Nat) el,els[i]? = some el → CellsRep F w b (off + i * sz) el):Rep F w (.sl els) (.slice (some ⟨b,off,none⟩) els.length c):=by
 refine .sl els b off c sz (fun i j=>(w.cell? ⟨b,off + i * sz + j,none⟩).getD undef) hF hlc hsz (fun i el j x hi hx=>?_) (fun i el j x hi hx=>?_)
 ·obtain ⟨v,h1,h2⟩:=h i el hi j x hx; simp [h1]
 ·obtain ⟨v,h1,h2⟩:=h i el hi j x hx; simpa [h1] using h2
theorem ObjRep.cells {F:Nat → Prop} {w:World} {ob:Obj} {L:Loc} (h:ObjRep F w ob L) {e:Nat} {el:List IV} (he:ob.els[e]? = some el) :
  CellsRep F w L.b (L.base + e * L.sz) el:=by
 obtain ⟨cs,ty,h1,h2,h3⟩:=h.at_
 intro j x hx
 obtain ⟨v,hv,hr⟩:=h3 e el j x he hx
 exact ⟨v,by simp [World.cell?,h1,hv],hr⟩
theorem choose_list {α:Type} {R:Nat → α → Prop}:∀ (n:Nat),(∀ j,j < n → ∃ v,R j v) → ∃ vs:List α,vs.length = n ∧ ∀ j v,vs[j]? = some v → R j v
 | 0,_=>⟨[],rfl,by simp⟩
 | n + 1,h=>by
  obtain ⟨vs,h1,h2⟩:=choose_list n fun j hj=>h j (by omega)
  obtain ⟨v,hv⟩:=h n (by omega)
  refine ⟨vs ++ [v],by simp [h1],fun j u hu=>?_⟩
  rw [List.getElem?_append] at hu
  split at hu
  ·exact h2 j u hu
  ·rename_i hj
   rw [List.getElem?_singleton] at hu
   split at hu
   ·rename_i h0
    obtain rfl:=Option.some.inj hu
    have:j = n:=by omega
    subst this; exact hv
   ·simp at hu
theorem CellsRep.values {F:Nat → Prop} {w:World} {b off:Nat} {cells:List IV} (h:CellsRep F w b off cells) :
  ∃ vs:List Value,vs.length = cells.length ∧ (∀ j v,vs[j]? = some v → w.cell? ⟨b,off + j,none⟩ = some v) ∧
   ∀ (j:Nat) (x:IV) (v:Value),cells[j]? = some x → vs[j]? = some v → Rep F w x v:=by
 obtain ⟨vs,h1,h2⟩:=choose_list (R:=fun j v=>w.cell? ⟨b,off + j,none⟩ = some v ∧ ∀ x,cells[j]? = some x → Rep F w x v) cells.length (fun j hj=>by
  obtain ⟨v,hv,hr⟩:=h j cells[j] (List.getElem?_eq_getElem hj)
  exact ⟨v,hv,fun x hx=>by rw [List.getElem?_eq_getElem hj] at hx; obtain rfl:=Option.some.inj hx; exact hr⟩)
 exact ⟨vs,h1,fun j v hv=>(h2 j v hv).1,fun j x v hx hv=>(h2 j v hv).2 x hx⟩
theorem loadCellsFrom_run {P:Program} {w:World} (a:Addr):∀ (vs:List Value) (i:Nat) (acc:Array Value),(∀ j v,vs[j]? = some v → w.cell? (a.add (i + j)) = some v) →
  (loadCellsFrom a i vs.length acc).run P w = .ok (acc ++ vs.toArray) w
 | [],i,acc,_=>by simp [loadCellsFrom]
 | v :: vs,i,acc,h=>by
  have h0:=h 0 v (by simp)
  simp only [Nat.add_zero] at h0
  simp only [List.length_cons,loadCellsFrom,Sem.run_bind,run_load,h0,Result.andThen_ok]
  rw [loadCellsFrom_run a vs (i + 1) (acc.push v) fun j u hu=>by
   have:=h (j + 1) u (by simpa using hu)
   rwa [show i + (j + 1) = i + 1 + j by omega] at this]
  simp
theorem loadCells_run {P:Program} {w:World} (b off:Nat) (vs:List Value) (h:∀ j v,vs[j]? = some v → w.cell? ⟨b,off + j,none⟩ = some v) :
  (loadCells ⟨b,off,none⟩ vs.length).run P w = .ok vs.toArray w:=by
 have:=loadCellsFrom_run (P:=P) (w:=w) ⟨b,off,none⟩ vs 0 #[] (fun j v hv=>by rw [add_plain,Nat.zero_add]; exact h j v hv)
 simpa [loadCells] using this
theorem isAgg_run {E:Env} (hE:E.Ok) {t:TypeId} {i:TyI} (h:E.τ t = some i) {w:World}:(isAgg t).run E.P w = .ok i.k.agg w:=by
 obtain ⟨d,h1,h2,h3,h4⟩:=und_run hE h (w:=w)
 unfold isAgg
 rw [Sem.run_bind,h1,Result.andThen_ok]
 cases d <;> (cases hk:i.k <;> rw [hk] at h2 h3 h4 <;> simp_all [TK.fits,TK.agg])
def valOf (k:TK) (cs:List IV):Option AV :=
 if k.agg = true then some (.agg cs) else match cs with
  | [x]=>some (.i x)
  | _=>none
def cellsAt (ob:Obj) (e j n:Nat):Option (List IV) :=
 match ob.els[e]? with
 | some el=>if j + n ≤ el.length then some ((el.drop j).take n) else none
 | none=>none
def loadA (E:Env) (H:List (Nat × Obj)) (t:TypeId) (v:AV):Option AV :=
 match E.τ t with
 | none=>none
 | some i=>match v with
  | .ptr o e j=>match look H o with
   | some ob=>match cellsAt ob e j i.size with
    | some cs=>valOf i.k cs
    | none=>none
   | none=>none
  | .i (.ptr cells)=>if i.size ≤ cells.length then valOf i.k (cells.take i.size) else none
  | .cell o off len=>match i.k with
   | .slice _=>some (.own o off len)
   | _=>none
  | _=>none
theorem load_cells {E:Env} (hE:E.Ok) {F:Nat → Prop} {ρ:Locs} {w:World} {t:TypeId} {i:TyI} (hi:E.τ t = some i) {b off:Nat} {cs:List IV} {r:AV}
  (hc:CellsRep F w b off cs) (hn:cs.length = i.size) (hr:valOf i.k cs = some r) :
  ∃ v,RepA F ρ w r v ∧ (loadVar t ⟨b,off,none⟩).run E.P w = .ok v w:=by
 unfold loadVar
 rw [Sem.run_bind,isAgg_run hE hi,Result.andThen_ok]
 unfold valOf at hr
 obtain ⟨vs,h1,h2,h3⟩:=hc.values
 split at hr
 ·rename_i ha
  obtain rfl:=Option.some.inj hr
  refine ⟨.agg vs.toArray,.agg _ _ (by simp [h1]) fun j x v hx hv=>h3 j x v hx (by simpa using hv), ?_⟩
  rw [ha]
  simp only [if_true,Sem.run_bind,size_run hE hi,Result.andThen_ok]
  rw [← hn,← h1,loadCells_run b off vs h2]
  rfl
 ·rename_i ha
  split at hr
  ·rename_i x
   obtain rfl:=Option.some.inj hr
   obtain ⟨v,hv,hx⟩:=hc 0 x rfl
   refine ⟨v,.i _ _ hx, ?_⟩
   rw [Bool.not_eq_true] at ha
   simp only [Nat.add_zero] at hv
   simp [ha,hv]
  ·simp at hr
theorem cellsAt_rep {F:Nat → Prop} {w:World} {ob:Obj} {L:Loc} (h:ObjRep F w ob L) {e j n:Nat} {cs:List IV} (hc:cellsAt ob e j n = some cs) :
  cs.length = n ∧ CellsRep F w L.b (L.base + e * L.sz + j) cs:=by
 unfold cellsAt at hc
 split at hc
 ·rename_i el he
  split at hc
  ·rename_i hn
   obtain rfl:=Option.some.inj hc
   exact ⟨by simp; omega,((h.cells he).drop j).take n⟩
  ·simp at hc
 ·simp at hc
theorem loadA_run {E:Env} (hE:E.Ok) {F:Nat → Prop} {ρ:Locs} {H:List (Nat × Obj)} {w:World} {t:TypeId} {va r:AV} {a:Value}
  (hobj:∀ id ob L,look H id = some ob → ρ id = some L → ObjRep F w ob L) (ha:RepA F ρ w va a) (h:loadA E H t va = some r) :
  ∃ v,RepA F ρ w r v ∧ (Instr.loadAt t a).run E.P w = .ok v w:=by
 unfold loadA at h
 split at h
 ·simp at h
 ·rename_i i hi
  split at h
  ·rename_i o e j
   cases ha with | ptr _ _ _ L ho =>
   split at h
   ·rename_i ob hob
    split at h
    ·rename_i cs hcs
     obtain ⟨h1,h2⟩:=cellsAt_rep (hobj o ob L hob ho) hcs
     obtain ⟨v,hv,hrun⟩:=load_cells hE (ρ:=ρ) hi h2 h1 h
     exact ⟨v,hv,by simpa [Instr.loadAt,Instr.sureAddr] using hrun⟩
    ·simp at h
   ·simp at h
  ·rename_i cells
   cases ha with | i _ _ ha =>
   obtain ⟨b,off,rfl,hF,hc⟩:=ha.ptr_cells
   split at h
   ·rename_i hn
    obtain ⟨v,hv,hrun⟩:=load_cells hE (ρ:=ρ) hi (hc.take i.size) (by simp; omega) h
    exact ⟨v,hv,by simpa [Instr.loadAt,Instr.sureAddr] using hrun⟩
   ·simp at h
  ·rename_i o off len
   cases ha with | cell _ _ _ u b hb hc h' =>
   split at h
   ·rename_i e hk
    obtain rfl:=Option.some.inj h
    refine ⟨u,h', ?_⟩
    simp [Instr.loadAt,Instr.sureAddr,loadVar,Sem.run_bind,isAgg_run hE hi,hk,TK.agg,hc]
   ·simp at h
  ·simp at h
def fieldOf (E:Env) (s:TypeId) (f:Nat):Option (Nat × TyI) :=
 match tkOf E s with
 | some (.struct fs)=>match fs[f]? with
  | some (off,ft)=>match E.τ ft with
   | some i=>some (off,i)
   | none=>none
  | none=>none
 | _=>none
def fieldAddrA (E:Env) (s:TypeId) (f:Nat) (v:AV):Option AV :=
 match fieldOf E s f with
 | some (off,i)=>if i.size = 0 then none else match v with
  | .ptr o e j=>some (.ptr o e (j + off))
  | .i (.ptr cells)=>some (.i (.ptr (cells.drop off)))
  | _=>none
 | none=>none
def indexAddrA (E:Env) (H:List (Nat × Obj)) (t:TypeId) (x ix:AV):Option AV :=
 match ix with
 | .i (.int _ i)=>if i < 0 then none else match tkOf E t with
  | some (.slice elem)=>match E.τ elem with
   | some ei=>match x with
    | .own o off len=>match look H o with
     | some ob=>if i < len ∧ ob.sz = ei.size then some (.ptr o (off + i.toNat) 0) else none
     | none=>none
    | .i (.sl els)=>match els[i.toNat]? with
     | some el=>if el.length = ei.size then some (.i (.ptr el)) else none
     | none=>none
    | _=>none
   | none=>none
  | some (.arr n elem)=>if i < n then match E.τ elem with
    | some ei=>match x with
     | .ptr o e j=>some (.ptr o e (j + i.toNat * ei.size))
     | .i (.ptr cells)=>some (.i (.ptr (cells.drop (i.toNat * ei.size))))
     | _=>none
    | none=>none
   else none
  | _=>none
 | _=>none
theorem fieldOf_spec {E:Env} (hE:E.Ok) {s:TypeId} {f off:Nat} {i:TyI} (h:fieldOf E s f = some (off,i)) (w:World) :
  ∃ gs g,(underlying s).run E.P w = .ok (.struct gs) w ∧ gs[f]? = some g ∧ g.offset = off ∧ E.τ g.type = some i:=by
 unfold fieldOf at h
 split at h
 ·rename_i fs hk
  obtain ⟨d,h1,h2,-⟩:=tk_und hE hk w
  cases d <;> simp [TK.fits] at h2
  rename_i gs
  split at h
  ·rename_i off' ft hf
   split at h
   ·rename_i i' hi
    obtain ⟨rfl,rfl⟩:=Prod.mk.inj (Option.some.inj h)
    rw [h2,List.getElem?_map,Option.map_eq_some_iff] at hf
    obtain ⟨g,hg,hgg⟩:=hf
    obtain ⟨rfl,rfl⟩:=Prod.mk.inj hgg
    exact ⟨gs,g,h1,by simpa using hg,rfl,hi⟩
   ·simp at h
  ·simp at h
 ·simp at h
theorem fieldAddrA_run {E:Env} (hE:E.Ok) {F:Nat → Prop} {ρ:Locs} {w:World} {s:TypeId} {f:Nat} {va r:AV} {a:Value}
  (ha:RepA F ρ w va a) (h:fieldAddrA E s f va = some r):∃ v,RepA F ρ w r v ∧ (Instr.fieldAt s a f).run E.P w = .ok v w:=by
 unfold fieldAddrA at h
 split at h
 ·rename_i off i hf
  obtain ⟨gs,g,h1,h2,rfl,h4⟩:=fieldOf_spec hE hf w
  split at h
  ·simp at h
  ·rename_i h0
   have key:∀ b o,(Instr.fieldAt s (.pointer (some ⟨b,o,none⟩)) f).run E.P w = .ok (.pointer (some ⟨b,o + g.offset,none⟩)) w:=by
    intro b o
    unfold Instr.fieldAt
    simp [h1,h2,Instr.sureAddr,fieldPlace,size_run hE h4,h0,add_plain]
   split at h
   ·rename_i o e j
    cases ha with | ptr _ _ _ L ho =>
    obtain rfl:=Option.some.inj h
    exact ⟨_,.ptr o e (j + g.offset) L ho,by rw [key,Nat.add_assoc]⟩
   ·rename_i cells
    cases ha with | i _ _ ha =>
    obtain ⟨b,o,rfl,hF,hc⟩:=ha.ptr_cells
    obtain rfl:=Option.some.inj h
    exact ⟨_,.i _ _ (Rep.of_cells hF (hc.drop g.offset)),key b o⟩
   ·simp at h
 ·simp at h
theorem indexAddrA_run {E:Env} (hE:E.Ok) {F:Nat → Prop} {ρ:Locs} {H:List (Nat × Obj)} {w:World} {t:TypeId} {va vi r:AV} {a ix:Value}
  (hobj:∀ id ob L,look H id = some ob → ρ id = some L → ObjRep F w ob L)
  (ha:RepA F ρ w va a) (hix:RepA F ρ w vi ix) (h:indexAddrA E H t va vi = some r):∃ v,RepA F ρ w r v ∧ (Instr.indexAt t a ix).run E.P w = .ok v w:=by
 unfold indexAddrA at h
 split at h
 ·rename_i k i
  obtain rfl:=hix.int_inv
  split at h
  ·simp at h
  ·rename_i h0
   split at h
   ·rename_i e hk
    obtain ⟨d,h1,h2,-⟩:=tk_und hE hk w
    cases d <;> simp [TK.fits] at h2
    subst h2
    split at h
    ·rename_i ei he
     split at h
     ·rename_i o off len
      split at h
      ·rename_i ob hob
       split at h
       ·rename_i hlt
        obtain rfl:=Option.some.inj h
        cases ha with
        | own _ _ _ c L ho hm hl hN =>
         have hsz:=(hobj o ob L hob ho).sz.trans hlt.2
         refine ⟨_,.ptr o (off + i.toNat) 0 L ho, ?_⟩
         have hi0:0 ≤ i:=by omega
         simp [Instr.indexAt,asIntOf,h1,hi0,hlt.1,size_run hE he,add_plain,← hsz,Nat.add_mul,Nat.add_assoc]
        | ownE _ _ ad=>simp at hlt; omega
       ·simp at h
      ·simp at h
     ·rename_i els
      split at h
      ·rename_i el hel
       split at h
       ·rename_i hl
        obtain rfl:=Option.some.inj h
        cases ha with | i _ _ ha =>
        have hlen:i.toNat < els.length:=(List.getElem?_eq_some_iff.1 hel).1
        rcases ha.sl_inv with ⟨rfl,_⟩ | ⟨b,off,c,sz,rfl,hF,hlc,hsz,hc⟩
        ·simp at hel
        ·obtain rfl:ei.size = sz:=hl.symm.trans (hsz el (List.mem_of_getElem? hel))
         refine ⟨_,.i _ _ (Rep.of_cells hF (hc i.toNat el hel)), ?_⟩
         have hi0:0 ≤ i:=by omega
         have hi1:i < (els.length:Int):=by omega
         simp [Instr.indexAt,asIntOf,h1,hi0,hi1,size_run hE he,add_plain]
       ·simp at h
      ·simp at h
     ·simp at h
    ·simp at h
   ·rename_i n e hk
    obtain ⟨d,h1,h2,-⟩:=tk_und hE hk w
    cases d <;> simp [TK.fits] at h2
    obtain ⟨rfl,rfl⟩:=h2
    split at h
    ·rename_i hlt
     split at h
     ·rename_i ei he
      have hi0:0 ≤ i:=by omega
      split at h
      ·rename_i o e' j
       cases ha with | ptr _ _ _ L ho =>
       obtain rfl:=Option.some.inj h
       refine ⟨_,.ptr o e' (j + i.toNat * ei.size) L ho, ?_⟩
       simp [Instr.indexAt,asIntOf,Instr.sureAddr,h1,hi0,hlt,size_run hE he,add_plain,Nat.add_assoc]
      ·rename_i cells
       cases ha with | i _ _ ha =>
       obtain ⟨b,o,rfl,hF,hc⟩:=ha.ptr_cells
       obtain rfl:=Option.some.inj h
       refine ⟨_,.i _ _ (Rep.of_cells hF (hc.drop (i.toNat * ei.size))), ?_⟩
       simp [Instr.indexAt,asIntOf,Instr.sureAddr,h1,hi0,hlt,size_run hE he,add_plain]
      ·simp at h
     ·simp at h
    ·simp at h
   ·simp at h
 ·simp at h
end Go.Vai
