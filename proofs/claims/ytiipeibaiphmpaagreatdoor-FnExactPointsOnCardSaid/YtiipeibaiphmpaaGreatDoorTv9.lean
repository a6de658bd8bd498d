/- Texts of this claim: Zv9. -/
import Derived.Test.YtiipeibaiphmpaaGreatDoorTv8
set_option linter.unusedVariables false
set_option linter.unusedSimpArgs false
namespace Go.Vai
inductive RV where
 | i (x:IV)
 | agg (cells:List IV)
 | own (sz:Nat) (els:List (List IV))
 | pt (sz:Nat) (el:List IV)
inductive RepR (F:Nat → Prop) (B:Nat) (w:World):Option Loc → RV → Value → Prop
 | i (l:Option Loc) (x:IV) (v:Value) (h:Rep F w x v):RepR F B w l (.i x) v
 | agg (l:Option Loc) (cells:List IV) (cs:Array Value) (h:ArrRep F w cells cs):RepR F B w l (.agg cells) (.agg cs)
 | own (sz:Nat) (els:List (List IV)) (L:Loc) (c:Nat) (ho:ObjRep F w ⟨sz,els⟩ L) (hB:B ≤ L.b) (hF:¬ F L.b) (hlc:els.length ≤ c) (hN:L.base + c * L.sz ≤ L.N) :
   RepR F B w (some L) (.own sz els) (.slice (some ⟨L.b,L.base,none⟩) els.length c)
 | ownE (sz:Nat) (a:Option Addr):RepR F B w none (.own sz []) (.slice a 0 0)
 | pt (sz:Nat) (el:List IV) (L:Loc) (ho:ObjRep F w ⟨sz,[el]⟩ L) (hB:B ≤ L.b) (hF:¬ F L.b):RepR F B w (some L) (.pt sz el) (.pointer (some ⟨L.b,L.base,none⟩))
def packV (vs:List Value):Value:=match vs with
 | [v]=>v
 | vs=>.tuple vs.toArray
structure RepRs (F:Nat → Prop) (B:Nat) (w:World) (rs:List RV) (vs:List Value) (ls:Nat → Option Loc):Prop where
 len:vs.length = rs.length
 rep:∀ (k:Nat) (r:RV) (v:Value),rs[k]? = some r → vs[k]? = some v → RepR F B w (ls k) r v
 apart:∀ (k k':Nat) (L L':Loc),k < rs.length → k' < rs.length → ls k = some L → ls k' = some L' → L.b = L'.b → k = k'
def goesB (P:Program) (f:FuncId):Bool :=
 match P.funcs[f]? with
 | some fn => fn.body.isSome && fn.name != "runtime.NumGoroutine"
 | none=>false
structure PC (E:Env) (f:FuncId) (args:List AV) (rs:List RV):Prop where
 goes:goesB E.P f = true
 run:∀ (F:Nat → Prop) (w:World) (cargs:Array Value),GRep E F w → (∀ b,F b → b < w.heap.size) → cargs.size = args.length →
  (∀ (j:Nat) (x:AV) (v:Value),args[j]? = some x → cargs[j]? = some v → RepA F (fun _=>none) w x v) →
  Calls E.P f cargs w fun e w'=>∃ vs F' ls,e = .returned (packV vs) ∧ Below w.heap.size w w' ∧ (∀ b,F b → F' b) ∧ (∀ b,F' b → F b ∨ w.heap.size ≤ b) ∧
   (∀ b,F' b → b < w'.heap.size) ∧ RepRs F' w.heap.size w' rs vs ls
def immC (H:List (Nat × Obj)):AV → Option IV
 | .i x=>some x
 | .esl=>some (.sl [])
 | .own o off len=>(look H o).map fun ob=>.sl ((ob.els.drop off).take len)
 | .cell o off len=>(look H o).map fun ob=>.ptr [.sl ((ob.els.drop off).take len)]
 | .ptr o e j=>match look H o with
  | some ob=>match ob.els[e]? with
   | some el=>some (.ptr (el.drop j))
   | none=>none
  | none=>none
 | _=>none
def immCs (H:List (Nat × Obj)):List AV → Option (List IV)
 | []=>some []
 | x :: l=>match immC H x,immCs H l with
  | some y,some ys=>some (y :: ys)
  | _,_=>none
def immA (H:List (Nat × Obj)):AV → Option AV
 | .agg cells=>some (.agg cells)
 | .fn f caps=>(immCs H caps).map fun l=>.i (.fn f l)
 | v=>(immC H v).map .i
def immL (H:List (Nat × Obj)):List AV → Option (List AV)
 | []=>some []
 | x :: l=>match immA H x,immL H l with
  | some y,some ys=>some (y :: ys)
  | _,_=>none
def keepA (H:List (Nat × Obj)):AV → Option AV
 | .esl=>some .esl
 | v=>immA H v
def immK (H:List (Nat × Obj)):List AV → Option (List AV)
 | []=>some []
 | x :: l=>match keepA H x,immK H l with
  | some y,some ys=>some (y :: ys)
  | _,_=>none
def noOwn:AV → Bool
 | .i _ | .agg _ | .esl=>true
 | _=>false
def Lent (F:Nat → Prop) (ρ:Locs) (H:List (Nat × Obj)) (b:Nat):Prop:=F b ∨ ∃ o ob L,look H o = some ob ∧ ρ o = some L ∧ L.b = b
theorem immO_rep {F:Nat → Prop} {ρ:Locs} {H:List (Nat × Obj)} {w:World} (hobj:∀ id ob L,look H id = some ob → ρ id = some L → ObjRep F w ob L)
  {o off len:Nat} {v:Value} {y:IV} (h:RepA F ρ w (.own o off len) v) (hy:immC H (.own o off len) = some y):Rep (Lent F ρ H) w y v:=by
 have hF:∀ b,F b → Lent F ρ H b:=fun b hb=>.inl hb
 cases h with
 | own _ _ _ c L ho hm hl hN =>
  obtain ⟨ob,hob,rfl⟩:=Option.map_eq_some_iff.1 hy
  have hr:=hobj o ob L hob ho
  have hlen:((ob.els.drop off).take len).length = len:=by have:=hr.m; simp; omega
  have hb:Lent F ρ H L.b:=.inr ⟨o,ob,L,hob,ho,rfl⟩
  have:=Rep.of_els (F:=Lent F ρ H) (w:=w) (els:=(ob.els.drop off).take len) (b:=L.b) (off:=L.base + off * L.sz) (c:=c) (sz:=ob.sz) hb (by rw [hlen]; exact hl)
   (fun el he=>hr.len el (List.mem_of_mem_drop (List.mem_of_mem_take he))) (fun i el he=>by
    rw [List.getElem?_take] at he
    split at he
    ·rw [List.getElem?_drop] at he
     have hc:=(hr.cells he).mono hF (fun _ _=>rfl) rfl
     rw [hr.sz,Nat.add_mul,← Nat.add_assoc] at hc
     rw [hr.sz]; exact hc
    ·simp at he)
  rwa [hlen] at this
 | ownE _ _ a =>
  obtain ⟨ob,hob,rfl⟩:=Option.map_eq_some_iff.1 hy
  simp; exact .slE _ _
theorem immC_rep {F:Nat → Prop} {ρ:Locs} {H:List (Nat × Obj)} {w:World} (hobj:∀ id ob L,look H id = some ob → ρ id = some L → ObjRep F w ob L)
  {x:AV} {v:Value} {y:IV} (h:RepA F ρ w x v) (hy:immC H x = some y):Rep (Lent F ρ H) w y v:=by
 have hF:∀ b,F b → Lent F ρ H b:=fun b hb=>.inl hb
 cases h with
 | i x v h=>obtain rfl:=Option.some.inj hy; exact h.mono hF fun _ _=>rfl
 | esl a=>obtain rfl:=Option.some.inj hy; exact .slE _ _
 | own o off len c L ho hm hl hN =>
  obtain ⟨ob,hob,rfl⟩:=Option.map_eq_some_iff.1 hy
  have hr:=hobj o ob L hob ho
  have hlen:((ob.els.drop off).take len).length = len:=by have:=hr.m; simp; omega
  have hb:Lent F ρ H L.b:=.inr ⟨o,ob,L,hob,ho,rfl⟩
  have:=Rep.of_els (F:=Lent F ρ H) (w:=w) (els:=(ob.els.drop off).take len) (b:=L.b) (off:=L.base + off * L.sz) (c:=c) (sz:=ob.sz) hb (by rw [hlen]; exact hl)
   (fun el he=>hr.len el (List.mem_of_mem_drop (List.mem_of_mem_take he))) (fun i el he=>by
    rw [List.getElem?_take] at he
    split at he
    ·rw [List.getElem?_drop] at he
     have hc:=(hr.cells he).mono hF (fun _ _=>rfl) rfl
     rw [hr.sz,Nat.add_mul,← Nat.add_assoc] at hc
     rw [hr.sz]; exact hc
    ·simp at he)
  rwa [hlen] at this
 | ownE o off a =>
  obtain ⟨ob,hob,rfl⟩:=Option.map_eq_some_iff.1 hy
  simp; exact .slE _ _
 | ptr o e j L ho =>
  simp only [immC] at hy
  split at hy
  ·rename_i ob hob
   split at hy
   ·rename_i el he
    obtain rfl:=Option.some.inj hy
    exact Rep.of_cells (.inr ⟨o,ob,L,hob,ho,rfl⟩) ((((hobj o ob L hob ho).cells he).drop j).mono hF (fun _ _=>rfl) rfl)
   ·simp at hy
  ·simp at hy
 | agg=>simp [immC] at hy
 | tup=>simp [immC] at hy
 | fn=>simp [immC] at hy
 | dead=>simp [immC] at hy
 | pin=>simp [immC] at hy
 | cell o off len u b hb hc h =>
  obtain ⟨ob,hob,rfl⟩:=Option.map_eq_some_iff.1 hy
  have h':=immO_rep hobj h (y:=.sl ((ob.els.drop off).take len)) (by simp [immC,hob])
  refine .ptr [_] b 0 (fun _=>u) (.inl hb) (fun j x hx=>?_) (fun j x hx=>?_)
  ·cases j with
   | zero=>simpa using hc
   | succ j=>simp at hx
  ·cases j with
   | zero=>obtain rfl:=Option.some.inj hx; exact h'
   | succ j=>simp at hx
theorem immCs_rep {F:Nat → Prop} {ρ:Locs} {H:List (Nat × Obj)} {w:World} (hobj:∀ id ob L,look H id = some ob → ρ id = some L → ObjRep F w ob L) :
  ∀ {l:List AV} {ys:List IV},immCs H l = some ys → ys.length = l.length ∧
   ∀ (cs:Array Value),(∀ (j:Nat) (x:AV) (v:Value),l[j]? = some x → cs[j]? = some v → RepA F ρ w x v) → ∀ (j:Nat) (y:IV) (v:Value),ys[j]? = some y → cs[j]? = some v → Rep (Lent F ρ H) w y v
 | [],ys,h=>by obtain rfl:=Option.some.inj h; simp
 | x :: l,ys,h=>by
  simp only [immCs] at h
  split at h
  ·rename_i y ys' hy hys
   obtain rfl:=Option.some.inj h
   obtain ⟨h1,h2⟩:=immCs_rep hobj hys
   refine ⟨by simp [h1],fun cs hcs j=>?_⟩
   cases j with
   | zero =>
    intro z v hz hv
    obtain rfl:=Option.some.inj hz
    exact immC_rep hobj (hcs 0 x v rfl hv) hy
   | succ j =>
    intro z v hz hv
    have hlt:j + 1 < cs.size:=(Array.getElem?_eq_some_iff.1 hv).1
    refine h2 (cs.extract 1 cs.size) (fun i x' v' hx' hv'=>hcs (i + 1) x' v' (by simpa using hx') ?_) j z v (by simpa using hz) ?_
    ·rw [Array.getElem?_extract] at hv'
     split at hv'
     ·rwa [Nat.add_comm] at hv'
     ·simp at hv'
    ·rw [Array.getElem?_extract,if_pos (by omega),Nat.add_comm]; exact hv
  ·simp at h
theorem immA_rep {F:Nat → Prop} {ρ:Locs} {H:List (Nat × Obj)} {w:World} (hobj:∀ id ob L,look H id = some ob → ρ id = some L → ObjRep F w ob L)
  {x y:AV} {v:Value} (h:RepA F ρ w x v) (hy:immA H x = some y):RepA (Lent F ρ H) (fun _=>none) w y v:=by
 have hF:∀ b,F b → Lent F ρ H b:=fun b hb=>.inl hb
 cases h with
 | agg cells cs hs hr=>obtain rfl:=Option.some.inj hy; exact .agg _ _ hs fun j x v h1 h2=>(hr j x v h1 h2).mono hF fun _ _=>rfl
 | fn f cap cs hs hr =>
  obtain ⟨l,hl,rfl⟩:=Option.map_eq_some_iff.1 hy
  obtain ⟨h1,h2⟩:=immCs_rep hobj hl
  exact .i _ _ (.fn f l cs (by omega) (h2 cs hr))
 | i x v h =>
  have hy':(immC H (.i x)).map AV.i = some y:=hy
  obtain ⟨z,hz,rfl⟩:=Option.map_eq_some_iff.1 hy'; exact .i _ _ (immC_rep hobj (.i x v h) hz)
 | esl a =>
  have hy':(immC H .esl).map AV.i = some y:=hy
  obtain ⟨z,hz,rfl⟩:=Option.map_eq_some_iff.1 hy'; exact .i _ _ (immC_rep hobj (.esl a) hz)
 | own o off len c L ho hm hl hN =>
  have hy':(immC H (.own o off len)).map AV.i = some y:=hy
  obtain ⟨z,hz,rfl⟩:=Option.map_eq_some_iff.1 hy'; exact .i _ _ (immC_rep hobj (.own o off len c L ho hm hl hN) hz)
 | ownE o off a =>
  have hy':(immC H (.own o off 0)).map AV.i = some y:=hy
  obtain ⟨z,hz,rfl⟩:=Option.map_eq_some_iff.1 hy'; exact .i _ _ (immC_rep hobj (.ownE o off a) hz)
 | ptr o e j L ho =>
  have hy':(immC H (.ptr o e j)).map AV.i = some y:=hy
  obtain ⟨z,hz,rfl⟩:=Option.map_eq_some_iff.1 hy'; exact .i _ _ (immC_rep hobj (.ptr o e j L ho) hz)
 | tup=>simp [immA,immC] at hy
 | dead=>simp [immA,immC] at hy
 | pin=>simp [immA,immC] at hy
 | cell o off len u b hb hc h =>
  have hy':(immC H (.cell o off len)).map AV.i = some y:=hy
  obtain ⟨z,hz,rfl⟩:=Option.map_eq_some_iff.1 hy'; exact .i _ _ (immC_rep hobj (.cell o off len u b hb hc h) hz)
theorem immA_noOwn {F:Nat → Prop} {ρ:Locs} {H:List (Nat × Obj)} {w:World} {x y:AV} {v:Value} (h:RepA F ρ w x v) (hy:immA H x = some y) (hn:noOwn x = true):RepA F (fun _=>none) w y v:=by
 cases h with
 | agg cells cs hs hr=>obtain rfl:=Option.some.inj hy; exact .agg _ _ hs hr
 | i x v h=>obtain rfl:=Option.some.inj hy; exact .i _ _ h
 | esl a=>obtain rfl:=Option.some.inj hy; exact .i _ _ (.slE _ _)
 | own=>simp [noOwn] at hn
 | ownE=>simp [noOwn] at hn
 | ptr=>simp [noOwn] at hn
 | fn=>simp [noOwn] at hn
 | tup=>simp [noOwn] at hn
 | dead=>simp [noOwn] at hn
 | pin=>simp [noOwn] at hn
 | cell=>simp [noOwn] at hn
theorem immL_spec {H:List (Nat × Obj)}:∀ {l ys:List AV},immL H l = some ys → ys.length = l.length ∧ ∀ (j:Nat) (y:AV),ys[j]? = some y → ∃ x,l[j]? = some x ∧ immA H x = some y
 | [],ys,h=>by obtain rfl:=Option.some.inj h; simp
 | x :: l,ys,h=>by
  simp only [immL] at h
  split at h
  ·rename_i y ys' hy hys
   obtain rfl:=Option.some.inj h
   obtain ⟨h1,h2⟩:=immL_spec hys
   refine ⟨by simp [h1],fun j=>?_⟩
   cases j with
   | zero=>intro z hz; obtain rfl:=Option.some.inj hz; exact ⟨x,rfl,hy⟩
   | succ j=>simpa using h2 j
  ·simp at h
theorem immK_spec {H:List (Nat × Obj)}:∀ {l ys:List AV},immK H l = some ys → ys.length = l.length ∧ ∀ (j:Nat) (y:AV),ys[j]? = some y → ∃ x,l[j]? = some x ∧ keepA H x = some y
 | [],ys,h=>by obtain rfl:=Option.some.inj h; simp
 | x :: l,ys,h=>by
  simp only [immK] at h
  split at h
  ·rename_i y ys' hy hys
   obtain rfl:=Option.some.inj h
   obtain ⟨h1,h2⟩:=immK_spec hys
   refine ⟨by simp [h1],fun j=>?_⟩
   cases j with
   | zero=>intro z hz; obtain rfl:=Option.some.inj hz; exact ⟨x,rfl,hy⟩
   | succ j=>simpa using h2 j
  ·simp at h
theorem keepA_or {H:List (Nat × Obj)} {x y:AV} (h:keepA H x = some y):immA H x = some y ∨ x = .esl ∧ y = .esl:=by
 unfold keepA at h
 split at h
 ·exact .inr ⟨rfl,(Option.some.inj h).symm⟩
 ·exact .inl h
def imm2 (b:Bool) (H:List (Nat × Obj)) (l:List AV):Option (List AV):=if b = true then immK H l else immL H l
theorem imm2_spec {b:Bool} {H:List (Nat × Obj)} {l ys:List AV} (h:imm2 b H l = some ys):ys.length = l.length ∧
  ∀ (j:Nat) (y:AV),ys[j]? = some y → ∃ x,l[j]? = some x ∧ (immA H x = some y ∨ x = .esl ∧ y = .esl):=by
 unfold imm2 at h
 split at h
 ·obtain ⟨h1,h2⟩:=immK_spec h
  refine ⟨h1,fun j y hy=>?_⟩
  obtain ⟨x,h3,h4⟩:=h2 j y hy
  exact ⟨x,h3,keepA_or h4⟩
 ·obtain ⟨h1,h2⟩:=immL_spec h
  refine ⟨h1,fun j y hy=>?_⟩
  obtain ⟨x,h3,h4⟩:=h2 j y hy
  exact ⟨x,h3,.inl h4⟩
theorem esl_again {F F':Nat → Prop} {ρ ρ':Locs} {w w':World} {v:Value} (h:RepA F ρ w .esl v):RepA F' ρ' w' .esl v:=by
 cases h with | esl a=>exact .esl a
def oneA (d:Nat):RV → AV × List (Nat × Obj)
 | .i x=>(.i x,[])
 | .agg c=>(.agg c,[])
 | .own sz els=>(.own d 0 els.length,[(d,⟨sz,els⟩)])
 | .pt sz el=>(.ptr d 0 0,[(d,⟨sz,[el]⟩)])
def objR:RV → Option Obj
 | .own sz els=>some ⟨sz,els⟩
 | .pt sz el=>some ⟨sz,[el]⟩
 | _=>none
def resL (d:Nat):List RV → List AV × List (Nat × Obj)
 | []=>([],[])
 | r :: rs=>((oneA d r).1 :: (resL (d + 1000) rs).1,(oneA d r).2 ++ (resL (d + 1000) rs).2)
def resA (d:Nat):List RV → AV × List (Nat × Obj)
 | [r]=>oneA d r
 | rs=>(.tup (resL d rs).1,(resL d rs).2)
def flatC (l:List IV):Prop:=∀ x ∈ l,x.flat = true
def flatR:RV → Prop
 | .i x=>x.flat = true
 | .agg c=>flatC c
 | .own _ els=>∀ el ∈ els,flatC el
 | .pt _ el=>flatC el
theorem look_append {α:Type} (l l':List (Nat × α)) (t:Nat):look (l ++ l') t = match look l t with
  | some v=>some v
  | none=>look l' t:=by
 induction l with
 | nil=>rfl
 | cons p l ih =>
  obtain ⟨i,v⟩:=p
  simp only [List.cons_append,look_cons,ih]
  split <;> rfl
theorem resL_spec:∀ (rs:List RV) (d:Nat),(resL d rs).1.length = rs.length ∧
  (∀ (k:Nat) (r:RV),rs[k]? = some r → (resL d rs).1[k]? = some (oneA (d + 1000 * k) r).1) ∧
  (∀ o ob,look (resL d rs).2 o = some ob → ∃ k r,rs[k]? = some r ∧ o = d + 1000 * k ∧ objR r = some ob)
 | [],d=>by simp [resL,look]
 | r :: rs,d=>by
  obtain ⟨h1,h2,h3⟩:=resL_spec rs (d + 1000)
  refine ⟨by simp [resL,h1],fun k r' hk=>?_,fun o ob ho=>?_⟩
  ·cases k with
   | zero=>obtain rfl:=Option.some.inj hk; simp [resL]
   | succ k =>
    have:=h2 k r' (by simpa using hk)
    simp only [resL,List.getElem?_cons_succ,this]
    rw [show d + 1000 + 1000 * k = d + 1000 * (k + 1) by omega]
  ·simp only [resL,look_append] at ho
   split at ho
   ·rename_i v hv
    obtain rfl:=Option.some.inj ho
    cases r with
    | i x=>simp [oneA,look] at hv
    | agg c=>simp [oneA,look] at hv
    | own sz els =>
     simp only [oneA,look_cons,look_nil] at hv
     split at hv
     ·rename_i hd
      exact ⟨0,_,rfl,by omega,hv⟩
     ·simp at hv
    | pt sz el =>
     simp only [oneA,look_cons,look_nil] at hv
     split at hv
     ·rename_i hd
      exact ⟨0,_,rfl,by omega,hv⟩
     ·simp at hv
   ·obtain ⟨k,r',hk,rfl,hob⟩:=h3 o ob ho
    exact ⟨k + 1,r',by simpa using hk,by omega,hob⟩
def resρ (ρ:Locs) (d:Nat) (rs:List RV) (ls:Nat → Option Loc):Locs:=fun o =>
 if (look (resL d rs).2 o).isSome = true then ls ((o - d) / 1000) else ρ o
theorem resρ_at {ρ:Locs} {d:Nat} {rs:List RV} {ls:Nat → Option Loc} {k:Nat} (h:(look (resL d rs).2 (d + 1000 * k)).isSome = true):resρ ρ d rs ls (d + 1000 * k) = ls k:=by
 unfold resρ
 rw [if_pos h,show (d + 1000 * k - d) / 1000 = k by omega]
theorem look_resL:∀ (rs:List RV) (d k:Nat) (q:RV) (ob:Obj),rs[k]? = some q → objR q = some ob → (look (resL d rs).2 (d + 1000 * k)).isSome = true
 | [],d,k,q,ob,h,_=>by simp at h
 | r :: rs,d,k,q,ob,h,hq=>by
  simp only [resL,look_append]
  cases k with
  | zero=>obtain rfl:=Option.some.inj h; cases r <;> simp [objR] at hq <;> simp [oneA,look]
  | succ k =>
   have:=look_resL rs (d + 1000) k q ob (by simpa using h) hq
   rw [show d + 1000 + 1000 * k = d + 1000 * (k + 1) by omega] at this
   split
   ·rfl
   ·exact this
theorem RepR.flat {F F':Nat → Prop} {B:Nat} {w:World} {l:Option Loc} {r:RV} {v:Value} (h:RepR F B w l r v) (hf:flatR r) (hB:∀ b,F' b → b < B):RepR F' B w l r v:=by
 cases h with
 | i l x v h=>exact .i l x v (h.of_flat hf)
 | agg l cells cs h=>exact .agg l cells cs ⟨h.1,fun j x u hx hu=>(h.2 j x u hx hu).of_flat (hf x (List.mem_of_getElem? hx))⟩
 | own sz els L c ho hB' hF hlc hN =>
  obtain ⟨h1,h2,h3,h4,cs,ty,h5,h6,h7⟩:=ho
  refine .own sz els L c ⟨h1,h2,h3,h4,cs,ty,h5,h6,fun e el j x he hx=>?_⟩ hB' (fun hF'=>absurd (hB _ hF') (by omega)) hlc hN
  obtain ⟨v,hv,hr⟩:=h7 e el j x he hx
  exact ⟨v,hv,hr.of_flat (hf el (List.mem_of_getElem? he) x (List.mem_of_getElem? hx))⟩
 | ownE sz a=>exact .ownE sz a
 | pt sz el L ho hB' hF =>
  obtain ⟨h1,h2,h3,h4,cs,ty,h5,h6,h7⟩:=ho
  refine .pt sz el L ⟨h1,h2,h3,h4,cs,ty,h5,h6,fun e el' j x he hx=>?_⟩ hB' (fun hF'=>absurd (hB _ hF') (by omega))
  obtain ⟨v,hv,hr⟩:=h7 e el' j x he hx
  have:el' = el:=by
   have:=List.mem_of_getElem? he
   simpa using this
  subst this
  exact ⟨v,hv,hr.of_flat (hf x (List.mem_of_getElem? hx))⟩
theorem RepRs.take {F F':Nat → Prop} {ρ:Locs} {w w':World} {rs:List RV} {vs:List Value} {ls:Nat → Option Loc} {d:Nat}
  (hsub:∀ b,F b → F' b) (hsup:∀ b,F' b → F b ∨ w.heap.size ≤ b) (hlt:∀ b,F' b → b < w'.heap.size) (h:RepRs F' w.heap.size w' rs vs ls) :
  RepA F' (resρ ρ d rs ls) w' (resA d rs).1 (packV vs) ∧ (∀ o,look (resA d rs).2 o = none → resρ ρ d rs ls o = ρ o) ∧
  (∀ o ob L,look (resA d rs).2 o = some ob → resρ ρ d rs ls o = some L → ObjRep F' w' ob L ∧ w.heap.size ≤ L.b ∧ ¬ F' L.b) ∧
  (∀ o ob,look (resA d rs).2 o = some ob → ob.els ≠ [] → (resρ ρ d rs ls o).isSome = true) ∧
  (∀ o o' ob ob' L L',look (resA d rs).2 o = some ob → look (resA d rs).2 o' = some ob' → resρ ρ d rs ls o = some L → resρ ρ d rs ls o' = some L' → L.b = L'.b → o = o'):=by
 obtain ⟨hlen,hrep,hap⟩:=h
 obtain ⟨s1,s2,s3⟩:=resL_spec rs d
 have hone:∀ k r v,rs[k]? = some r → vs[k]? = some v → RepA F' (resρ ρ d rs ls) w' (oneA (d + 1000 * k) r).1 v:=by
  intro k r v hk hv
  have hr:=hrep k r v hk hv
  generalize hl:ls k = l at hr
  cases hr with
  | i l x v h=>exact .i _ _ h
  | agg l cells cs h=>exact .agg _ _ h.1 h.2
  | own sz els L c ho hB hF hlc hN =>
   have:=RepA.own (F:=F') (ρ:=resρ ρ d rs ls) (w:=w') (d + 1000 * k) 0 els.length c L (by rw [resρ_at (look_resL rs d k _ _ hk rfl)]; exact hl) (by rw [ho.m]; simp) hlc (by simpa using hN)
   simpa [oneA] using this
  | ownE sz a=>exact .ownE _ _ _
  | pt sz el L ho hB hF =>
   have:=RepA.ptr (F:=F') (ρ:=resρ ρ d rs ls) (w:=w') (d + 1000 * k) 0 0 L (by rw [resρ_at (look_resL rs d k _ _ hk rfl)]; exact hl)
   simpa [oneA] using this
 have h2:(resA d rs).2 = (resL d rs).2:=by
  unfold resA; split
  ·rename_i r; simp [resL]
  ·rfl
 have hv:RepA F' (resρ ρ d rs ls) w' (resA d rs).1 (packV vs):=by
  unfold resA packV
  split
  ·rename_i r
   simp only [List.length_singleton] at hlen
   obtain ⟨v,rfl⟩:=List.length_eq_one_iff.1 hlen
   simpa using hone 0 r v rfl rfl
  ·rename_i hne
   split
   ·rename_i v
    simp only [List.length_singleton] at hlen
    obtain ⟨r,rfl⟩:=List.length_eq_one_iff.1 hlen.symm
    exact absurd rfl (hne r)
   ·refine .tup _ _ (by simp [hlen,s1]) fun j x v hx hv=>?_
    have hj:j < rs.length:=by rw [← s1]; exact (List.getElem?_eq_some_iff.1 hx).1
    have hr:=List.getElem?_eq_getElem hj
    rw [s2 j _ hr] at hx
    obtain rfl:=Option.some.inj hx
    exact hone j _ v hr (by simpa using hv)
 have hat:∀ o ob L,look (resL d rs).2 o = some ob → resρ ρ d rs ls o = some L → ∃ k r,rs[k]? = some r ∧ o = d + 1000 * k ∧ objR r = some ob ∧ ls k = some L:=by
  intro o ob L ho hL
  obtain ⟨k,r,hk,rfl,hob⟩:=s3 o ob ho
  rw [resρ_at (by rw [ho]; rfl)] at hL
  exact ⟨k,r,hk,rfl,hob,hL⟩
 have hval:∀ k r,rs[k]? = some r → ∃ v,vs[k]? = some v ∧ RepR F' w.heap.size w' (ls k) r v:=by
  intro k r hk
  have hlt:k < vs.length:=by rw [hlen]; exact (List.getElem?_eq_some_iff.1 hk).1
  exact ⟨vs[k],List.getElem?_eq_getElem hlt,hrep k _ _ hk (List.getElem?_eq_getElem hlt)⟩
 refine ⟨hv,fun o ho=>?_,fun o ob L ho hL=>?_,fun o ob ho hne=>?_,fun o o' ob ob' L L' ho ho' hL hL' hbb=>?_⟩
 ·rw [h2] at ho; unfold resρ; rw [ho]; simp
 ·rw [h2] at ho
  obtain ⟨k,r,hk,rfl,hob,hl⟩:=hat o ob L ho hL
  obtain ⟨v,hv,hr⟩:=hval k r hk
  rw [hl] at hr
  cases hr with
  | i=>simp [objR] at hob
  | agg=>simp [objR] at hob
  | own _ _ _ c hoo hB hF hlc hN=>obtain rfl:=Option.some.inj hob; exact ⟨hoo,hB,hF⟩
  | pt _ _ _ hoo hB hF=>obtain rfl:=Option.some.inj hob; exact ⟨hoo,hB,hF⟩
 ·rw [h2] at ho
  obtain ⟨k,r,hk,rfl,hob⟩:=s3 o ob ho
  rw [resρ_at (by rw [ho]; rfl)]
  obtain ⟨v,hv,hr⟩:=hval k r hk
  generalize hl:ls k = l at hr
  cases hr with
  | i=>simp [objR] at hob
  | agg=>simp [objR] at hob
  | own _ _ L c ho hB hF hlc hN=>rfl
  | ownE=>obtain rfl:=Option.some.inj hob; exact absurd rfl hne
  | pt=>rfl
 ·rw [h2] at ho ho'
  obtain ⟨k,r,hk,rfl,hob,hl⟩:=hat o ob L ho hL
  obtain ⟨k',r',hk',rfl,hob',hl'⟩:=hat o' ob' L' ho' hL'
  rw [hap k k' L L' (List.getElem?_eq_some_iff.1 hk).1 (List.getElem?_eq_some_iff.1 hk').1 hl hl' hbb]
theorem RepRs.post {F F':Nat → Prop} {ρ:Locs} {w w':World} {rs:List RV} {vs:List Value} {ls:Nat → Option Loc} {d:Nat}
  (hb:Below w.heap.size w w') (hsub:∀ b,F b → F' b) (hsup:∀ b,F' b → F b ∨ w.heap.size ≤ b) (hlt:∀ b,F' b → b < w'.heap.size) (h:RepRs F' w.heap.size w' rs vs ls) :
  Post F ρ w (resA d rs).1 (resA d rs).2 F' (resρ ρ d rs ls) w' (packV vs):=by
 obtain ⟨h1,h2,h3,h4,h5⟩:=h.take (ρ:=ρ) (d:=d) hsub hsup hlt
 exact ⟨hb,hsub,hsup,hlt,h1,h2,h3,h4,h5⟩
def calleeA (E:Env) (T:List (Nat × AV)):Op → Option (FuncId × List AV)
 | .call { callee:=.value f,args:=xs,.. }=>match evA E T f,evL E T xs.toList with
  | some (.fn g caps),some vs=>some (g,vs ++ caps)
  | some (.i (.fn g caps)),some vs=>some (g,vs ++ caps.map .i)
  | _,_=>none
 | _=>none
theorem goes_run {P:Program} {f:FuncId} (h:goesB P f = true) (args:Array Value) (w:World):(callFunc f args).run P w = .ok (.enter f args) w:=by
 unfold goesB at h
 split at h
 ·rename_i fn hf
  simp only [Bool.and_eq_true,bne_iff_ne,ne_eq] at h
  obtain ⟨h1,h2⟩:=h
  have h3:fn.body.isNone = false:=by cases hb:fn.body <;> simp_all
  unfold callFunc
  simp [hf,h2,h3]
  intro hn; rw [hn] at h1; simp at h1
 ·simp at h
theorem QOK.call {E:Env} {T:List (Nat × AV)} {H:List (Nat × Obj)} {o:Oper} {d:Nat} {g:FuncId} {vs ys:List AV} {rs:List RV}
  (hc:calleeA E T o.op = some (g,vs)) {kb:Bool} (hy:imm2 kb H vs = some ys) (hpc:PC E g ys rs) (hlend:(vs.all noOwn = true) ∨ ∀ r ∈ rs,flatR r) :
  QOK E T H o (resA d rs).1 (resA d rs).2:=by
 intro F ρ a w hp K Q hK
 obtain ⟨hl1,hl2⟩:=imm2_spec hy
 have hcall:∃ cargs:Array Value,(execOp a.eval o).run E.P w = (callFunc g cargs).run E.P w ∧ cargs.size = vs.length ∧
   ∀ (j:Nat) (x:AV) (v:Value),vs[j]? = some x → cargs[j]? = some v → RepA F ρ w x v:=by
  cases hop:o.op <;> rw [hop] at hc <;> simp only [calleeA] at hc <;> (try (simp at hc; done))
  rename_i c
  obtain ⟨callee,xs,ats⟩:=c
  cases callee <;> simp only [] at hc <;> (try (simp at hc; done))
  rename_i f
  have hf:f ∈ o.op.operands:=by rw [hop]; simp [Op.operands,Call.operands]
  have hxs:∀ x ∈ xs.toList,x ∈ o.op.operands:=by
   intro x hx; rw [hop]; simp only [Op.operands,Call.operands]
   exact Array.mem_append.2 (.inr (Array.mem_toList_iff.1 hx))
  split at hc
  ·rename_i g' caps us hfv hus
   obtain ⟨rfl,rfl⟩:=Prod.mk.inj (Option.some.inj hc)
   have h1:=hp.ev hf hfv
   obtain ⟨h2,h3⟩:=hp.evL hxs hus
   generalize hfe:a.eval f = fv at h1
   cases h1 with | fn _ _ cs hs hr =>
   refine ⟨xs.map a.eval ++ cs, ?_,by simp [h2,hs],fun j x v hx hv=>?_⟩
   ·unfold execOp; rw [hop]; simp [resolve,hfe,Deferred.ofValue,invoke]
   ·rw [List.getElem?_append] at hx
    rw [Array.getElem?_append] at hv
    simp only [Array.size_map] at hv
    have e:xs.size = us.length:=by simp [h2]
    rw [e] at hv
    split at hx
    ·rename_i hj
     rw [if_pos hj] at hv
     exact h3 j x v hx (by simpa using hv)
    ·rename_i hj
     rw [if_neg hj] at hv
     exact hr _ x v hx hv
  ·rename_i g' caps us hfv hus
   obtain ⟨rfl,rfl⟩:=Prod.mk.inj (Option.some.inj hc)
   have h1:=hp.ev hf hfv
   obtain ⟨h2,h3⟩:=hp.evL hxs hus
   generalize hfe:a.eval f = fv at h1
   cases h1 with | i _ _ h1=>cases h1 with | fn _ _ cs hs hr =>
   refine ⟨xs.map a.eval ++ cs, ?_,by simp [h2,hs],fun j x v hx hv=>?_⟩
   ·unfold execOp; rw [hop]; simp [resolve,hfe,Deferred.ofValue,invoke]
   ·rw [List.getElem?_append] at hx
    rw [Array.getElem?_append] at hv
    simp only [Array.size_map] at hv
    have e:xs.size = us.length:=by simp [h2]
    rw [e] at hv
    split at hx
    ·rename_i hj
     rw [if_pos hj] at hv
     exact h3 j x v hx (by simpa using hv)
    ·rename_i hj
     rw [if_neg hj] at hv
     rw [List.getElem?_map] at hx
     obtain ⟨y,hy',rfl⟩:=Option.map_eq_some_iff.1 hx
     exact .i _ _ (hr _ y v hy' hv)
  ·simp at hc
 obtain ⟨cargs,hrun,hsz,hargs⟩:=hcall
 unfold Oper.wp
 rw [hrun,goes_run hpc.goes]
 show Calls E.P g cargs w _
 rcases hlend with hno | hflat
 ·-- nothing is lent
  refine (hpc.run F w cargs hp.glob hp.lt (by omega) fun j y v hyj hv=>?_).mono ?_
  ·obtain ⟨x,hx,hxy⟩:=hl2 j y hyj
   rcases hxy with hxy | ⟨rfl,rfl⟩
   ·exact immA_noOwn (hargs j x v hx hv) hxy (List.all_eq_true.1 hno x (List.mem_of_getElem? hx))
   ·exact esl_again (hargs j _ v hx hv)
  ·rintro e w' ⟨us,F',ls,rfl,hb,hsub,hsup,hlt,hrr⟩
   exact hK _ _ _ _ (hrr.post hb hsub hsup hlt)
 ·-- what comes back leads nowhere
  refine (hpc.run (Lent F ρ H) w cargs (hp.glob.mono (fun b hb=>.inl hb) fun _ _=>rfl) (fun b hb=>?_) (by omega) fun j y v hyj hv=>?_).mono ?_
  ·rcases hb with hb | ⟨o',ob,L,h1,h2,rfl⟩
   ·exact hp.lt b hb
   ·obtain ⟨cs,ty,h3,-⟩:=(hp.obj o' ob L h1 h2).at_
    exact (Array.getElem?_eq_some_iff.1 h3).1
  ·obtain ⟨x,hx,hxy⟩:=hl2 j y hyj
   rcases hxy with hxy | ⟨rfl,rfl⟩
   ·exact immA_rep hp.obj (hargs j x v hx hv) hxy
   ·exact esl_again (hargs j _ v hx hv)
  ·rintro e w' ⟨us,F',ls,rfl,hb,hsub,hsup,hlt,hrr⟩
   refine hK _ _ F _ (RepRs.post (ls:=ls) hb (fun _ h=>h) (fun _ h=>.inl h) (fun b hb'=>Nat.lt_of_lt_of_le (hp.lt b hb') hb.size) ⟨hrr.len,fun k r v hk hv=>?_,hrr.apart⟩)
   exact (hrr.rep k r v hk hv).flat (hflat r (List.mem_of_getElem? hk)) hp.lt
end Go.Vai
