/- Texts of this claim: Zv2. -/
import Derived.Test.YtiipeibaiphmpaaGreatDoorTv1
import Derived.Laws.Sem
import Derived.Laws.World
set_option linter.unusedVariables false
set_option linter.unusedSimpArgs false
namespace Go.Vai
inductive TK where
 | bool
 | int (k:IntKind)
 | string
 | struct (fs:List (Nat × TypeId))
 | arr (n:Nat) (elem:TypeId)
 | slice (elem:TypeId)
 | ptr (elem:TypeId)
 | map (key elem:TypeId)
 | other
 deriving DecidableEq
structure TyI where
 k:TK
 size:Nat
 bytes:Nat
 zero:List IV
def IV.toV:IV → Value
 | .int k n=>.int k n
 | .bool b=>.bool b
 | .str s=>.string s
 | .raw v=>v
 | _=>.slice none 0 0
theorem Rep.toV {F:Nat → Prop} {w:World} {x:IV} (h:x.flat = true):Rep F w x x.toV:=by
 cases x with
 | int k n=>exact .int k n
 | bool b=>exact .bool b
 | str s=>exact .str s
 | sl els=>cases els with
  | nil=>exact .slE _ _
  | cons a l=>simp [IV.flat] at h
 | ptr c=>simp [IV.flat] at h
 | fn f c=>simp [IV.flat] at h
 | raw v=>exact .raw v h
 | mp f=>simp [IV.flat] at h
def TK.fits:TK → TypeDesc → Prop
 | .int k,.int k'=>k = k'
 | .bool,.bool=>True
 | .string,.string=>True
 | .struct fs,.struct gs=>fs = gs.toList.map fun g=>(g.offset,g.type)
 | .arr n e,.array m e'=>n = m ∧ e = e'
 | .slice e,.slice e'=>e = e'
 | .ptr e,.pointer e'=>e = e'
 | .map k e,.map k' e'=>k = k' ∧ e = e'
 | .other,_=>True
 | _,_=>False
def TK.agg:TK → Bool
 | .struct _ | .arr ..=>true
 | _=>false
structure TyOk (P:Program) (t:TypeId) (i:TyI):Prop where
 info:∃ inf,P.info? t = some inf ∧ inf.size = i.size ∧ inf.bytes = i.bytes ∧
  (i.zero ≠ [] → (∀ x ∈ i.zero,x.flat = true) ∧ ∃ z,inf.zero = some z ∧ z.cells = (i.zero.map IV.toV).toArray)
 zs:∀ e,i.k = .slice e → ∃ inf,P.info? t = some inf ∧ inf.zero = some (.slice none 0 0)
 und:∃ d,P.underlying t = some d ∧ i.k.fits d ∧ (∀ s,d = .struct s → i.k ≠ .other) ∧ (∀ n e,d = .array n e → i.k ≠ .other)
structure Env where
 P:Program
 τ:TypeId → Option TyI
 G:List (Nat × List IV)
 M:List FuncId
 N:List FuncId
structure Env.Ok (E:Env):Prop where
 ty:∀ t i,E.τ t = some i → TyOk E.P t i
 many:E.P.follows .mixedOrders = true
def GRep (E:Env) (F:Nat → Prop) (w:World):Prop:=∀ g cells,look E.G g = some cells → Rep F w (.ptr cells) (.pointer (some ⟨g,0,none⟩))
theorem GRep.mono {E:Env} {F F':Nat → Prop} {w w':World} (hF:∀ b,F b → F' b) (hw:∀ b,F b → w'.heap[b]? = w.heap[b]?) (h:GRep E F w):GRep E F' w' :=
 fun g cells hg=>(h g cells hg).mono hF hw
def constI:Value → Option IV
 | .int k n=>some (.int k n)
 | .bool b=>some (.bool b)
 | .string s=>some (.str s)
 | .slice none 0 0=>some (.sl [])
 | .pointer none=>some (.raw (.pointer none))
 | .nilFunc=>some (.raw .nilFunc)
 | .nilIface=>some (.raw .nilIface)
 | .map none=>some (.raw (.map none))
 | _=>none
def constL:List Value → Option (List IV)
 | []=>some []
 | v :: l=>match constI v,constL l with
  | some x,some xs=>some (x :: xs)
  | _,_=>none
def constA:Value → Option AV
 | .slice none 0 0=>some .esl
 | .agg cs=>(constL cs.toList).map .agg
 | v=>(constI v).map .i
def stripA:AV → AV
 | .pin _ x=>x
 | x=>x
theorem RepA.strip {F:Nat → Prop} {ρ:Locs} {w:World} {x:AV} {v:Value} (h:RepA F ρ w x v):RepA F ρ w (stripA x) v:=by
 cases h with
 | pin v x h=>exact h
 | i x v h=>exact .i x v h
 | agg cells cs hs hr=>exact .agg cells cs hs hr
 | tup vs cs hs hr=>exact .tup vs cs hs hr
 | own o off len c L ho hm hl hN=>exact .own o off len c L ho hm hl hN
 | ownE o off a=>exact .ownE o off a
 | ptr o e j L ho=>exact .ptr o e j L ho
 | fn f cap cs hs hr=>exact .fn f cap cs hs hr
 | esl a=>exact .esl a
 | cell o off len u b hb hc h=>exact .cell o off len u b hb hc h
 | dead v=>exact .dead v
def evA (E:Env) (T:List (Nat × AV)):Operand → Option AV
 | .tmp t=>(look T t).map stripA
 | .const v=>constA v
 | .func f=>some (.fn f [])
 | .global g=>(look E.G g).map fun c=>.i (.ptr c)
def evM (E:Env) (T:List (Nat × AV)):Operand → Option AV
 | .tmp t=>look T t
 | x=>evA E T x
def evL (E:Env) (T:List (Nat × AV)):List Operand → Option (List AV)
 | []=>some []
 | x :: l=>match evA E T x,evL E T l with
  | some v,some vs=>some (v :: vs)
  | _,_=>none
theorem constI_rep {F:Nat → Prop} {w:World} {v:Value} {x:IV} (h:constI v = some x):Rep F w x v:=by
 unfold constI at h
 split at h <;> (try obtain rfl:=Option.some.inj h) <;> first | exact .int _ _ | exact .bool _ | exact .str _ | exact .slE _ _ | exact .raw _ rfl | simp at h
theorem constL_rep {F:Nat → Prop} {w:World}:∀ {l:List Value} {xs:List IV},constL l = some xs →
  xs.length = l.length ∧ ∀ (j:Nat) (x:IV) (v:Value),xs[j]? = some x → l[j]? = some v → Rep F w x v
 | [],xs,h=>by obtain rfl:=Option.some.inj h; simp
 | v :: l,xs,h=>by
  simp only [constL] at h
  split at h
  ·rename_i x ys hx hys
   obtain rfl:=Option.some.inj h
   obtain ⟨h1,h2⟩:=constL_rep (F:=F) (w:=w) hys
   refine ⟨by simp [h1],fun j=>?_⟩
   cases j with
   | zero=>simp only [List.getElem?_cons_zero,Option.some.injEq]; rintro _ _ rfl rfl; exact constI_rep hx
   | succ j=>simpa using h2 j
  ·simp at h
theorem constA_rep {F:Nat → Prop} {ρ:Locs} {w:World} {v:Value} {x:AV} (h:constA v = some x):RepA F ρ w x v:=by
 unfold constA at h
 split at h
 ·obtain rfl:=Option.some.inj h; exact .esl _
 ·rename_i cs
  simp only [Option.map_eq_some_iff] at h
  obtain ⟨xs,hx,rfl⟩:=h
  obtain ⟨h1,h2⟩:=constL_rep (F:=F) (w:=w) hx
  exact .agg xs cs (by simpa using h1.symm) fun j x v hj hv=>h2 j x v hj (by simpa using hv)
 ·simp only [Option.map_eq_some_iff] at h
  obtain ⟨y,hy,rfl⟩:=h
  exact .i _ _ (constI_rep hy)
structure Pre (E:Env) (F:Nat → Prop) (ρ:Locs) (T:List (Nat × AV)) (H:List (Nat × Obj)) (o:Oper) (a:Act) (w:World):Prop where
 glob:GRep E F w
 lt:∀ b,F b → b < w.heap.size
 ops:∀ t v,.tmp t ∈ o.op.operands → look T t = some v → RepA F ρ w v (a.tmps.getD t undef)
 obj:∀ id ob L,look H id = some ob → ρ id = some L → ObjRep F w ob L
theorem Pre.ev {E:Env} {F:Nat → Prop} {ρ:Locs} {T:List (Nat × AV)} {H:List (Nat × Obj)} {o:Oper} {a:Act} {w:World} (h:Pre E F ρ T H o a w)
  {x:Operand} {v:AV} (hx:x ∈ o.op.operands) (hv:evA E T x = some v):RepA F ρ w v (a.eval x):=by
 cases x with
 | tmp t =>
  obtain ⟨u,hu,rfl⟩:=Option.map_eq_some_iff.1 hv
  exact (h.ops t u hx hu).strip
 | const c=>exact constA_rep hv
 | global g =>
  simp only [evA,Option.map_eq_some_iff] at hv
  obtain ⟨c,hc,rfl⟩:=hv
  exact .i _ _ (h.glob g c hc)
 | func f =>
  obtain rfl:=Option.some.inj hv
  exact .fn f [] #[] rfl (by simp)
theorem Pre.evM {E:Env} {F:Nat → Prop} {ρ:Locs} {T:List (Nat × AV)} {H:List (Nat × Obj)} {o:Oper} {a:Act} {w:World} (h:Pre E F ρ T H o a w)
  {x:Operand} {v:AV} (hx:x ∈ o.op.operands) (hv:Vai.evM E T x = some v):RepA F ρ w v (a.eval x):=by
 cases x with
 | tmp t=>exact h.ops t v hx hv
 | const c=>exact h.ev hx hv
 | global g=>exact h.ev hx hv
 | func f=>exact h.ev hx hv
theorem Pre.evL {E:Env} {F:Nat → Prop} {ρ:Locs} {T:List (Nat × AV)} {H:List (Nat × Obj)} {o:Oper} {a:Act} {w:World} (h:Pre E F ρ T H o a w) :
  ∀ {xs:List Operand} {vs:List AV},(∀ x ∈ xs,x ∈ o.op.operands) → Vai.evL E T xs = some vs →
   vs.length = xs.length ∧ ∀ (j:Nat) (x:AV) (v:Value),vs[j]? = some x → (xs.map a.eval)[j]? = some v → RepA F ρ w x v
 | [],vs,_,hv=>by obtain rfl:=Option.some.inj hv; simp
 | x :: l,vs,hx,hv=>by
  simp only [Vai.evL] at hv
  split at hv
  ·rename_i y ys hy hys
   obtain rfl:=Option.some.inj hv
   obtain ⟨h1,h2⟩:=h.evL (fun z hz=>hx z (by simp [hz])) hys
   refine ⟨by simp [h1],fun j=>?_⟩
   cases j with
   | zero=>simp only [List.map_cons,List.getElem?_cons_zero,Option.some.injEq]; rintro _ _ rfl rfl; exact h.ev (hx x (by simp)) hy
   | succ j=>simpa using h2 j
  ·simp at hv
def andI (k:IntKind) (a b:Int):Int:=k.wrap (BitVec.ofInt k.bits a &&& BitVec.ofInt k.bits b).toNat
def orI (k:IntKind) (a b:Int):Int:=k.wrap (BitVec.ofInt k.bits a ||| BitVec.ofInt k.bits b).toNat
def xorI (k:IntKind) (a b:Int):Int:=k.wrap (BitVec.ofInt k.bits a ^^^ BitVec.ofInt k.bits b).toNat
def shlI (k:IntKind) (a b:Int):Int:=k.wrap (a * 2 ^ (min b.toNat k.bits))
def shrI (k:IntKind) (a b:Int):Int:=a.fdiv (2 ^ (min b.toNat k.bits))
def intOp (op:BinOp) (k:IntKind) (a b:Int):Option IV :=
 match op with
 | .add=>some (.int k (k.wrap (a + b)))
 | .sub=>some (.int k (k.wrap (a - b)))
 | .mul=>some (.int k (k.wrap (a * b)))
 | .quo=>if b = 0 then none else some (.int k (k.wrap (a.tdiv b)))
 | .rem=>if b = 0 then none else some (.int k (a.tmod b))
 | .eql=>some (.bool (a == b))
 | .neq=>some (.bool (a != b))
 | .lss=>some (.bool (decide (a < b)))
 | .leq=>some (.bool (decide (a ≤ b)))
 | .gtr=>some (.bool (decide (b < a)))
 | .geq=>some (.bool (decide (b ≤ a)))
 | .and=>some (.int k (andI k a b))
 | .or=>some (.int k (orI k a b))
 | .xor=>some (.int k (xorI k a b))
 | _=>none
def shOp (op:BinOp) (k:IntKind) (a b:Int):Option IV :=
 if b < 0 then none else
 match op with
 | .shl=>some (.int k (shlI k a b))
 | .shr=>some (.int k (shrI k a b))
 | _=>none
def isSh:BinOp → Bool
 | .shl | .shr=>true
 | _=>false
def boolOp (op:BinOp) (a b:Bool):Option IV :=
 match op with
 | .eql=>some (.bool (a == b))
 | .neq=>some (.bool (a != b))
 | _=>none
def strOp (op:BinOp) (a b:ByteArray):Option IV :=
 match op with
 | .eql=>some (.bool (a.toList == b.toList))
 | .neq=>some (.bool (!(a.toList == b.toList)))
 | _=>none
def tkOf (E:Env) (t:TypeId):Option TK:=(E.τ t).map TyI.k
def binI (E:Env) (op:BinOp) (t:TypeId):AV → AV → Option IV
 | .i (.int k a),.i (.int k' b)=>if isSh op = true then shOp op k a b else if k = k' then intOp op k a b else none
 | .i (.bool a),.i (.bool b)=>if tkOf E t = some .bool then boolOp op a b else none
 | .i (.str a),.i (.str b)=>strOp op a b
 | _,_=>none
theorem intOp_run {P:Program} {w:World} {op:BinOp} {k:IntKind} {a b:Int} {t:TypeId} {x:IV} (hs:isSh op = false) (h:intOp op k a b = some x) :
  (binOp op t (.int k a) (.int k b)).run P w = .ok x.toV w ∧ x.flat = true:=by
 cases op <;> simp [isSh] at hs <;> simp only [intOp] at h <;> (try split at h) <;> (try (simp at h; done)) <;>
  (obtain rfl:=Option.some.inj h) <;> simp [binOp,Op.intArith,Op.intDiv,Op.intCmp,Op.intBits,IV.toV,IV.flat,andI,orI,xorI, *]
theorem shOp_run {P:Program} {w:World} {op:BinOp} {k k':IntKind} {a b:Int} {t:TypeId} {x:IV} (hs:isSh op = true) (h:shOp op k a b = some x) :
  (binOp op t (.int k a) (.int k' b)).run P w = .ok x.toV w ∧ x.flat = true:=by
 simp only [shOp] at h
 split at h
 ·simp at h
 ·cases op <;> simp [isSh] at hs <;> (obtain rfl:=Option.some.inj h) <;> simp [binOp,Op.shift,IV.toV,IV.flat,shlI,shrI, *]
theorem RepA.int_inv {F:Nat → Prop} {ρ:Locs} {w:World} {k:IntKind} {n:Int} {v:Value} (h:RepA F ρ w (.i (.int k n)) v):v = .int k n:=by
 cases h with | i x v h=>cases h; rfl
theorem RepA.bool_inv {F:Nat → Prop} {ρ:Locs} {w:World} {b:Bool} {v:Value} (h:RepA F ρ w (.i (.bool b)) v):v = .bool b:=by
 cases h with | i x v h=>cases h; rfl
theorem RepA.str_inv {F:Nat → Prop} {ρ:Locs} {w:World} {s:ByteArray} {v:Value} (h:RepA F ρ w (.i (.str s)) v):v = .string s:=by
 cases h with | i x v h=>cases h; rfl
theorem eqGuard_int {P:Program} {w:World} {op:BinOp} {t:TypeId} {x y:Operand} {k:IntKind} {n:Int} {b:Value}:(eqGuard op t x y (.int k n) b).run P w = .ok () w:=by
 cases op <;> rfl
theorem eqGuard_bool {P:Program} {w:World} {op:BinOp} {t:TypeId} {x y:Operand} {n:Bool} {b:Value}:(eqGuard op t x y (.bool n) b).run P w = .ok () w:=by
 cases op <;> rfl
theorem eqGuard_str {P:Program} {w:World} {op:BinOp} {t:TypeId} {x y:Operand} {n:ByteArray} {b:Value}:(eqGuard op t x y (.string n) b).run P w = .ok () w:=by
 cases op <;> rfl
theorem und_run {E:Env} (hE:E.Ok) {t:TypeId} {i:TyI} (h:E.τ t = some i) {w:World} :
  ∃ d,(underlying t).run E.P w = .ok d w ∧ i.k.fits d ∧ (∀ s,d = .struct s → i.k ≠ .other) ∧ (∀ n e,d = .array n e → i.k ≠ .other):=by
 obtain ⟨d,h1,h2⟩:=(hE.ty t i h).und
 exact ⟨d,by simp [underlying,h1],h2⟩
theorem size_run {E:Env} (hE:E.Ok) {t:TypeId} {i:TyI} (h:E.τ t = some i) {w:World}:(sizeOf t).run E.P w = .ok i.size w:=by
 obtain ⟨inf,h1,h2,_⟩:=(hE.ty t i h).info
 simp [sizeOf,typeInfo,h1,h2]
theorem eqIn_bool_run {P:Program} {w:World} {t:TypeId} (d:Nat) (p q:Bool) (h:(underlying t).run P w = .ok .bool w):(Op.equalIn (d + 1) t (.bool p) (.bool q)).run P w = .ok (p == q) w:=by
 simp only [Op.equalIn,Sem.run_bind,h,Result.andThen_ok,Sem.run_pure]
theorem eq_bool_run {P:Program} {w:World} {t:TypeId} (p q:Bool) (h:(underlying t).run P w = .ok .bool w):(Op.equal t (.bool p) (.bool q)).run P w = .ok (p == q) w :=
 eqIn_bool_run 9999 p q h
theorem boolOp_run {P:Program} {w:World} {op:BinOp} {t:TypeId} {a b:Bool} {x:IV} (hu:(underlying t).run P w = .ok .bool w) (h:boolOp op a b = some x) :
  (binOp op t (.bool a) (.bool b)).run P w = .ok x.toV w ∧ x.flat = true:=by
 cases op <;> simp only [boolOp] at h <;> (try (simp at h; done)) <;> (obtain rfl:=Option.some.inj h) <;> simp [binOp,eq_bool_run _ _ hu,IV.toV,IV.flat]
 cases a <;> cases b <;> rfl
theorem strOp_run {P:Program} {w:World} {op:BinOp} {t:TypeId} {a b:ByteArray} {x:IV} (h:strOp op a b = some x) :
  (binOp op t (.string a) (.string b)).run P w = .ok x.toV w ∧ x.flat = true:=by
 cases op <;> simp only [strOp] at h <;> (try (simp at h; done)) <;> (obtain rfl:=Option.some.inj h) <;> simp [binOp,Op.stringOp,IV.toV,IV.flat]
theorem tk_und {E:Env} (hE:E.Ok) {t:TypeId} {k:TK} (h:tkOf E t = some k) (w:World) :
  ∃ d,(underlying t).run E.P w = .ok d w ∧ k.fits d ∧ (∀ s,d = .struct s → k ≠ .other) ∧ (∀ n e,d = .array n e → k ≠ .other):=by
 obtain ⟨i,hi,rfl⟩:=Option.map_eq_some_iff.1 h
 exact und_run hE hi
theorem binI_run {E:Env} (hE:E.Ok) {F:Nat → Prop} {ρ:Locs} {w:World} {op:BinOp} {t:TypeId} {x y:Operand} {va vb:AV} {a b:Value} {r:IV}
  (ha:RepA F ρ w va a) (hb:RepA F ρ w vb b) (h:binI E op t va vb = some r) :
  ((eqGuard op t x y a b >>= fun _=>binOp op t a b):Sem Value).run E.P w = .ok r.toV w ∧ r.flat = true:=by
 unfold binI at h
 split at h
 ·obtain rfl:=ha.int_inv; obtain rfl:=hb.int_inv
  rw [Sem.run_bind,eqGuard_int]
  split at h
  ·rename_i hs; exact shOp_run hs h
  ·rename_i hs
   split at h
   ·rename_i hk; subst hk; exact intOp_run (by simpa using hs) h
   ·simp at h
 ·obtain rfl:=ha.bool_inv; obtain rfl:=hb.bool_inv
  rw [Sem.run_bind,eqGuard_bool]
  split at h
  ·rename_i hk
   obtain ⟨d,h1,h2,-⟩:=tk_und hE hk w
   cases d <;> simp [TK.fits] at h2
   exact boolOp_run h1 h
  ·simp at h
 ·obtain rfl:=ha.str_inv; obtain rfl:=hb.str_inv
  rw [Sem.run_bind,eqGuard_str]
  exact strOp_run h
 ·simp at h
end Go.Vai
