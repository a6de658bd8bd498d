/- Texts of this claim: Zv16. -/
import Derived.Test.YtiipeibaiphmpaaGreatDoorTv15
set_option linter.unusedVariables false
set_option linter.unusedSimpArgs false
namespace Go.Vai
def IV.same:IV → Value → Bool
 | .int k n,.int k' m=>decide (k = k') && decide (n = m)
 | .bool a,.bool b=>a == b
 | .str s,.string t=>s.data.toList.isEmpty && t.data.toList.isEmpty
 | .sl [],.slice none 0 0=>true
 | .raw (.pointer none),.pointer none=>true
 | .raw .nilFunc,.nilFunc=>true
 | .raw .nilIface,.nilIface=>true
 | .raw (.map none),.map none=>true
 | _,_=>false
theorem IV.same_spec {x:IV} {v:Value} (h:x.same v = true):v = x.toV ∧ x.flat = true:=by
 unfold IV.same at h
 split at h <;> first
  | (simp at h; done)
  | (simp at h; obtain ⟨rfl,rfl⟩:=h; exact ⟨rfl,rfl⟩)
  | (simp at h; subst h; exact ⟨rfl,rfl⟩)
  | exact ⟨rfl,rfl⟩
  | skip
 rename_i s t
 simp only [Bool.and_eq_true,List.isEmpty_iff] at h
 obtain ⟨h1,h2⟩:=h
 refine ⟨?_,rfl⟩
 have:s = t:=by
  cases s with | mk s=>cases t with | mk t =>
  cases s; cases t; simp_all
 rw [this]; rfl
def sameL:List IV → List Value → Bool
 | [],[]=>true
 | x :: xs,v :: vs=>x.same v && sameL xs vs
 | _,_=>false
theorem sameL_spec:∀ {xs:List IV} {vs:List Value},sameL xs vs = true → vs = xs.map IV.toV ∧ ∀ x ∈ xs,x.flat = true
 | [],[],_=>⟨rfl,by simp⟩
 | x :: xs,v :: vs,h=>by
  simp only [sameL,Bool.and_eq_true] at h
  obtain ⟨h1,h2⟩:=IV.same_spec h.1
  obtain ⟨h3,h4⟩:=sameL_spec h.2
  exact ⟨by rw [h1,h3]; rfl,fun y hy=>by
   rcases List.mem_cons.1 hy with rfl | hy
   ·exact h2
   ·exact h4 y hy⟩
 | [],_ :: _,h=>by simp [sameL] at h
 | _ :: _,[],h=>by simp [sameL] at h
def fsB:List (Nat × TypeId) → List Field → Bool
 | [],[]=>true
 | (a,b) :: l,f :: fs=>a == f.offset && b == f.type && fsB l fs
 | _,_=>false
theorem fsB_spec:∀ {l:List (Nat × TypeId)} {fs:List Field},fsB l fs = true → l = fs.map fun g=>(g.offset,g.type)
 | [],[],_=>rfl
 | (a,b) :: l,f :: fs,h=>by
  simp only [fsB,Bool.and_eq_true,beq_iff_eq] at h
  obtain ⟨⟨rfl,rfl⟩,h3⟩:=h
  rw [fsB_spec h3]; rfl
 | [],_ :: _,h=>by simp [fsB] at h
 | _ :: _,[],h=>by simp [fsB] at h
def TK.fitsB:TK → TypeDesc → Bool
 | .int k,.int k'=>decide (k = k')
 | .bool,.bool=>true
 | .string,.string=>true
 | .struct fs,.struct gs=>fsB fs gs.toList
 | .arr n e,.array m e'=>n == m && e == e'
 | .slice e,.slice e'=>e == e'
 | .ptr e,.pointer e'=>e == e'
 | .map k e,.map k' e'=>k == k' && e == e'
 | .other,.struct _=>false
 | .other,.array _ _=>false
 | .other,_=>true
 | _,_=>false
theorem TK.fitsB_spec {k:TK} {d:TypeDesc} (h:k.fitsB d = true):k.fits d ∧ (∀ s,d = .struct s → k ≠ .other) ∧ (∀ n e,d = .array n e → k ≠ .other):=by
 cases k <;> cases d <;> simp [TK.fitsB] at h <;> simp [TK.fits] <;> first | exact h | exact fsB_spec h
def nilSl:Option Value → Bool
 | some (.slice none 0 0)=>true
 | _=>false
def zsB (k:TK) (z:Option Value):Bool:=match k with
 | .slice _=>nilSl z
 | _=>true
theorem zsB_spec {k:TK} {z:Option Value} (h:zsB k z = true) {e:TypeId} (hk:k = .slice e):z = some (.slice none 0 0):=by
 subst hk
 have h':nilSl z = true:=h
 unfold nilSl at h'
 split at h'
 ·rfl
 ·simp at h'
def checkTy (P:Program) (t:TypeId) (i:TyI):Bool :=
 match P.info? t,P.underlying t with
 | some inf,some d=>inf.size == i.size && inf.bytes == i.bytes && (i.zero.isEmpty || (match inf.zero with
  | some z=>sameL i.zero z.cells.toList
  | none=>false)) && i.k.fitsB d && zsB i.k inf.zero
 | _,_=>false
theorem checkTy_spec {P:Program} {t:TypeId} {i:TyI} (h:checkTy P t i = true):TyOk P t i:=by
 unfold checkTy at h
 split at h <;> (try (simp at h; done))
 rename_i inf d h1 h2
 simp only [Bool.and_eq_true,beq_iff_eq,Bool.or_eq_true,List.isEmpty_iff] at h
 obtain ⟨⟨⟨⟨h3,h4⟩,h5⟩,h6⟩,h7⟩:=h
 obtain ⟨q1,q2,q3⟩:=TK.fitsB_spec h6
 refine ⟨⟨inf,h1,h3,h4,fun hne=>?_⟩,fun e he=>⟨inf,h1,zsB_spec h7 he⟩,d,h2,q1,q2,q3⟩
 rcases h5 with h5 | h5
 ·exact absurd h5 hne
 ·split at h5
  ·rename_i z hz
   obtain ⟨g1,g2⟩:=sameL_spec h5
   refine ⟨g2,z,hz, ?_⟩
   rw [← g1]
  ·simp at h5
def tysOk (P:Program) (l:List (Nat × TyI)):Bool:=l.all fun p=>checkTy P p.1 p.2
theorem look_mem {α:Type}:∀ {l:List (Nat × α)} {t:Nat} {v:α},look l t = some v → (t,v) ∈ l
 | [],t,v,h=>by simp [look] at h
 | (i,x) :: l,t,v,h=>by
  rw [look_cons] at h
  split at h
  ·rename_i hi; subst hi; obtain rfl:=Option.some.inj h; simp
  ·exact List.mem_cons_of_mem _ (look_mem h)
theorem tysOk_spec {P:Program} {l:List (Nat × TyI)} (h:tysOk P l = true) (t:TypeId) (i:TyI) (ht:look l t = some i):TyOk P t i :=
 checkTy_spec (List.all_eq_true.1 h (t,i) (look_mem ht))
def RetL (E:Env) (rl:List ResultVar) (rs:List RV) (st:St):Prop :=
 ∃ vs,resV E st rl = some vs ∧ nodupB (ownIds vs rs) = true ∧ retV st.H (without (ownIds vs rs) st.H) vs rs
def retE (E:Env) (rl:List ResultVar) (rs:List RV):Exit → St → Prop
 | .normal,st=>RetL E rl rs st
 | .ret,st=>RetL E rl rs st
 | _,_=>False
theorem PC_of {E:Env} (hE:E.Ok) {f:FuncId} {fn:Func} {c:Code} {rl:List ResultVar} {n:Nat} {args:List AV} {rs:List RV} (hf:E.P.funcs[f]? = some fn) (hb:fn.body = some c) (hr:fn.results.toList = rl) (hnt:fn.ntmps = n)
  (hg:goesB E.P f = true) (hok:codeOk E.M n c = true) (hn:args.length ≤ n) (h:X E n c ⟨numT 0 args,[]⟩ (retE E rl rs)):PC E f args rs:=by
 subst hnt
 refine PC_intro hE hf hb hg hok hn ?_
 have e:retQ E fn rs = retE E rl rs:=by
  funext e s
  subst hr
  cases e <;> rfl
 rw [e]; exact h
theorem PM_of {E:Env} (hE:E.Ok) {f:FuncId} {fn:Func} {c:Code} {rl:List ResultVar} {n:Nat} {args:List MA} {outs:List Obj} {rs:List RV} (hf:E.P.funcs[f]? = some fn) (hb:fn.body = some c) (hr:fn.results.toList = rl) (hnt:fn.ntmps = n)
  (hg:goesB E.P f = true) (hok:codeOk E.M n c = true) (hn:args.length ≤ n) (hall:allM (maO 0 args outs) (maH 0 args)) (h:X E n c ⟨numT 0 (maA 0 args),maH 0 args⟩ (retME E rl rs (maO 0 args outs))):PM E f args outs rs:=by
 subst hnt; subst hr
 exact PM_intro hE hf hb hg hok hn hall h
theorem PP_of {E:Env} (hE:E.Ok) {f:FuncId} {fn:Func} {c:Code} {rl:List ResultVar} {n:Nat} {args:List MA} {outs:List Obj} {j off len:Nat} (hf:E.P.funcs[f]? = some fn) (hb:fn.body = some c) (hr:fn.results.toList = rl) (hnt:fn.ntmps = n)
  (hg:goesB E.P f = true) (hok:codeOk E.M n c = true) (hn:args.length ≤ n) (hall:allM (maO 0 args outs) (maH 0 args)) (h:X E n c ⟨numT 0 (maA 0 args),maH 0 args⟩ (retPE E rl j off len (maO 0 args outs))):PM E f args outs [] (some (j,off,len)):=by
 subst hnt; subst hr
 exact PP_intro hE hf hb hg hok hn hall h
end Go.Vai
