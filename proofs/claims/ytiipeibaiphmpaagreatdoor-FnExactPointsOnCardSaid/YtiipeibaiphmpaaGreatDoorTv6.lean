/- Texts of this claim: Zv6. -/
import Derived.Test.YtiipeibaiphmpaaGreatDoorTv5b
set_option linter.unusedVariables false
set_option linter.unusedSimpArgs false
namespace Go.Vai
def nilA (v:AV):Option AV :=
 match v with
 | .ptr ..=>some v
 | .i (.ptr _)=>some v
 | .fn ..=>some v
 | .i (.fn ..)=>some v
 | _=>none
def evO (E:Env) (T:List (Nat × AV)):Option Operand → Option (Option AV)
 | none=>some none
 | some x=>(evA E T x).map some
def callA (E:Env) (T:List (Nat × AV)) (b:Builtin) (ats:List TypeId) (xs:List Operand):Option AV :=
 match b,ats,xs with
 | .len,[t],[x]=>match evA E T x with
  | some v=>lenA E t v
  | none=>none
 | .cap,[t],[x]=>match tkOf E t,evA E T x with
  | some (.slice _),some .esl=>some (.i (.int .i64 0))
  | _,_=>none
 | .max,_,[x,y]=>match evA E T x,evA E T y with
  | some v,some u=>mmA .max v u
  | _,_=>none
 | .min,_,[x,y]=>match evA E T x,evA E T y with
  | some v,some u=>mmA .min v u
  | _,_=>none
 | _,_,_=>none
def nilOp (E:Env) (op:BinOp) (t:TypeId) (a:AV) (y:Operand):Option AV:=match y,a,tkOf E t with
 | .const (.slice none 0 0),.i (.sl (_ :: _)),some (.slice _)=>(match op with
  | .eql=>some (.i (.bool false))
  | .neq=>some (.i (.bool true))
  | _=>none)
 | .const (.slice none 0 0),.i (.raw (.slice ad _ _)),some (.slice _)=>(match op with
  | .eql=>some (.i (.bool ad.isNone))
  | .neq=>some (.i (.bool ad.isSome))
  | _=>none)
 | _,_,_=>none
theorem eqIn_nil2_run {P:Program} {w:World} {t e:TypeId} (d n c:Nat) (h:(underlying t).run P w = .ok (.slice e) w):(Op.equalIn (d + 1) t (.slice none n c) (.slice none 0 0)).run P w = .ok true w:=by
 simp only [Op.equalIn,Sem.run_bind,h,Result.andThen_ok,Sem.run_pure,Option.isNone_none]
theorem eq_nil2_run {P:Program} {w:World} {t e:TypeId} (n c:Nat) (h:(underlying t).run P w = .ok (.slice e) w):(Op.equal t (.slice none n c) (.slice none 0 0)).run P w = .ok true w :=
 eqIn_nil2_run 9999 n c h
theorem eqIn_nil_run {P:Program} {w:World} {t e:TypeId} (d:Nat) (a:Addr) (n c:Nat) (h:(underlying t).run P w = .ok (.slice e) w):(Op.equalIn (d + 1) t (.slice (some a) n c) (.slice none 0 0)).run P w = .ok false w:=by
 simp only [Op.equalIn,Sem.run_bind,h,Result.andThen_ok,Sem.run_pure]
theorem eq_nil_run {P:Program} {w:World} {t e:TypeId} (a:Addr) (n c:Nat) (h:(underlying t).run P w = .ok (.slice e) w):(Op.equal t (.slice (some a) n c) (.slice none 0 0)).run P w = .ok false w :=
 eqIn_nil_run 9999 a n c h
theorem nilOp_run {E:Env} (hE:E.Ok) {F:Nat → Prop} {ρ:Locs} {w:World} {op:BinOp} {t:TypeId} {x y:Operand} {va r:AV} {a b:Value}
  (ha:RepA F ρ w va a) (hb:∀ v,y = .const v → b = v) (h:nilOp E op t va y = some r) :
  ∃ v,RepA F ρ w r v ∧ ((eqGuard op t x y a b >>= fun _=>binOp op t a b):Sem Value).run E.P w = .ok v w:=by
 unfold nilOp at h
 split at h
 ·rename_i u l el hk
  obtain rfl:=hb _ rfl
  obtain ⟨d,h1,h2,-⟩:=tk_und hE hk w
  cases d <;> simp [TK.fits] at h2
  cases ha with | i _ _ ha=>cases ha with | sl els b' off c sz cv hF hlc hsz hc hr =>
  generalize (u :: l).length = n
  have g:(eqGuard op t x (.const (.slice none 0 0)) (.slice (some ⟨b',off,none⟩) n c) (.slice none 0 0)).run E.P w = .ok () w:=by
   cases op <;> rfl
  rename_i e0
  have q:=eq_nil_run (⟨b',off,none⟩:Addr) n c h1
  rw [Sem.run_bind,g]
  cases op <;> simp at h
  ·subst h
   exact ⟨_,.i _ _ (.bool false),by simp [binOp,q]⟩
  ·subst h
   exact ⟨_,.i _ _ (.bool true),by simp [binOp,q]⟩
 ·rename_i ad n c el hk
  obtain rfl:=hb _ rfl
  obtain ⟨d,h1,h2,-⟩:=tk_und hE hk w
  cases d <;> simp [TK.fits] at h2
  cases ha with | i _ _ ha=>cases ha with | raw v hv =>
  have g:(eqGuard op t x (.const (.slice none 0 0)) (.slice ad n c) (.slice none 0 0)).run E.P w = .ok () w:=by
   cases op <;> rfl
  have q:(Op.equal t (.slice ad n c) (.slice none 0 0)).run E.P w = .ok ad.isNone w:=by
   cases ad with
   | none=>exact eq_nil2_run n c h1
   | some a=>exact eq_nil_run a n c h1
  rw [Sem.run_bind,g]
  cases op <;> simp at h
  ·subst h
   exact ⟨_,.i _ _ (.bool _),by simp [binOp,q]⟩
  ·subst h
   exact ⟨_,.i _ _ (.bool _),by simp [binOp,q]⟩
 ·simp at h
def lookA (E:Env) (t:TypeId) (m k:AV):Option AV:=match m,k with
 | .i (.mp f),.i (.int .i64 n)=>match tkOf E t with
  | some (.map kt et)=>match tkOf E kt,tkOf E et with
   | some (.int .i64),some (.slice _)=>if 0 ≤ n ∧ n ≤ 1048576 then some (.i (f n)) else none
   | _,_=>none
  | _=>none
 | _,_=>none
theorem checkKey_int {P:Program} {w:World} {kt:TypeId} (b:Bool) (d:Nat) (n:Int) (h:(underlying kt).run P w = .ok (.int .i64) w):(Instr.checkKey b (d + 1) kt (.int .i64 n)).run P w = .ok () w:=by
 simp only [Instr.checkKey,Sem.run_bind,h,Result.andThen_ok,Sem.run_pure]
theorem lookA_run {E:Env} (hE:E.Ok) {F:Nat → Prop} {ρ:Locs} {w:World} {t:TypeId} {m k r:AV} {vm vk:Value} (hm:RepA F ρ w m vm) (hk:RepA F ρ w k vk) (h:lookA E t m k = some r) :
  ∃ v,RepA F ρ w r v ∧ (Instr.lookup t vm vk false).run E.P w = .ok v w:=by
 unfold lookA at h
 split at h <;> (try (simp at h; done))
 rename_i f n
 split at h <;> (try (simp at h; done))
 rename_i kt et ht
 split at h <;> (try (simp at h; done))
 rename_i ee hkt het
 split at h <;> (try (simp at h; done))
 rename_i hn
 obtain rfl:=Option.some.inj h
 obtain rfl:=hk.int_inv
 cases hm with | i _ _ hm=>cases hm with | mp _ b es clock cv hF hb hl hr =>
 obtain ⟨d,u1,u2,-⟩:=tk_und hE ht w
 cases d <;> simp [TK.fits] at u2
 obtain ⟨rfl,rfl⟩:=u2
 obtain ⟨d,v1,v2,-⟩:=tk_und hE hkt w
 cases d <;> simp [TK.fits] at v2
 subst v2
 obtain ⟨i,hi,hik⟩:=Option.map_eq_some_iff.1 het
 obtain ⟨inf,z1,z2⟩:=(hE.ty _ i hi).zs ee hik
 have hg:(getObj b).run E.P w = .ok (.map es clock) w:=by simp [getObj,Sem.run,hb]
 have hz:(zeroValue et).run E.P w = .ok (.slice none 0 0) w:=by simp [zeroValue,typeInfo,z1,z2]
 refine ⟨cv n,.i _ _ (hr n hn.1 hn.2), ?_⟩
 have hc:∀ b,(Instr.checkKey b 10000 kt (.int .i64 n)).run E.P w = .ok () w:=fun b=>checkKey_int b 9999 n v1
 rcases hl n hn.1 hn.2 with ⟨h1,h2⟩ | ⟨i,h1⟩
 ·simp [Instr.lookup,u1,hg,hc,Instr.findKey,v1,h1,hz,h2]
 ·simp [Instr.lookup,u1,hg,hc,Instr.findKey,v1,h1]
def qpure (E:Env) (T:List (Nat × AV)) (H:List (Nat × Obj)):Op → Option AV
 | .move x=>evM E T x
 | .assign x=>evM E T x
 | .pick c a b=>match evA E T c with
  | some (.i (.bool t))=>if t = true then evA E T a else evA E T b
  | _=>none
 | .nilCheck x=>match evA E T x with
  | some v=>nilA v
  | none=>none
 | .binOp op t x y _=>match evA E T x,evA E T y with
  | some (.agg a),some (.agg b)=>eqOp E op t a b
  | some a,some .esl=>nilOp E op t a y
  | some a,some b=>(binI E op t a b).map .i
  | _,_=>none
 | .unOp op _ x=>match evA E T x with
  | some v=>unA op v
  | none=>none
 | .convert s d x=>match evA E T x with
  | some v=>convA E s d v
  | none=>none
 | .makeFunc (.func f) first cap=>if first = #[] then (evL E T cap.toList).map (.fn f) else none
 | .fieldAddr s x f=>match evA E T x with
  | some v=>fieldAddrA E s f v
  | none=>none
 | .indexAddr t x ix=>match evA E T x,evA E T ix with
  | some v,some i=>indexAddrA E H t v i
  | _,_=>none
 | .field s x f=>match evA E T x with
  | some v=>fieldA E s f v
  | none=>none
 | .index t x ix=>match evA E T x,evA E T ix with
  | some v,some i=>indexA E t v i
  | _,_=>none
 | .extract x ix=>match evA E T x with
  | some v=>extractA v ix
  | none=>none
 | .slice t x lo hi mx=>match evA E T x,evO E T lo,evO E T hi,evO E T mx with
  | some v,some l,some h,some m=>sliceA E H t v l h m
  | _,_,_,_=>none
 | .load t x=>match evA E T x with
  | some v=>loadA E H t v
  | none=>none
 | .build t ps=>buildV E T t ps.toList
 | .lookup t m k false=>match evA E T m,evA E T k with
  | some v,some u=>lookA E t v u
  | _,_=>none
 | .call { callee:=.builtin b,args:=xs,argTypes:=ats }=>callA E T b ats.toList xs.toList
 | _=>none
theorem Pre.evO {E:Env} {F:Nat → Prop} {ρ:Locs} {T:List (Nat × AV)} {H:List (Nat × Obj)} {o:Oper} {a:Act} {w:World} (h:Pre E F ρ T H o a w)
  {x:Option Operand} {v:Option AV} (hx:∀ y,x = some y → y ∈ o.op.operands) (hv:Vai.evO E T x = some v) :
  (∀ u,v = some u → ∃ c,x.map a.eval = some c ∧ RepA F ρ w u c) ∧ (v = none → x.map a.eval = none):=by
 cases x with
 | none=>obtain rfl:=Option.some.inj hv; simp
 | some y =>
  obtain ⟨u,hu,rfl⟩:=Option.map_eq_some_iff.1 hv
  refine ⟨fun u' e=>?_,by simp⟩
  obtain rfl:=Option.some.inj e
  exact ⟨_,rfl,h.ev (hx y rfl) hu⟩
theorem arr1 {α:Type} {a:Array α} {x:α} (h:a.toList = [x]):a = #[x]:=by
 cases a; simp_all
theorem arr2 {α:Type} {a:Array α} {x y:α} (h:a.toList = [x,y]):a = #[x,y]:=by
 cases a; simp_all
theorem execOp_builtin' (ρ:Operand → Value) (o:Oper) (b:Builtin) (xs:Array Operand) (ats:Array TypeId) (h:o.op = .call { callee:=.builtin b,args:=xs,argTypes:=ats }) :
  execOp ρ o = builtin b ats o.type (xs.map fun | .const _=>true | _=>false) (xs.map ρ):=by
 unfold execOp; rw [h]; rfl
theorem callA_run {E:Env} (hE:E.Ok) {F:Nat → Prop} {ρ:Locs} {T:List (Nat × AV)} {H:List (Nat × Obj)} {o:Oper} {a:Act} {w:World} (hp:Pre E F ρ T H o a w)
  {b:Builtin} {xs:Array Operand} {ats:Array TypeId} (ho:o.op = .call { callee:=.builtin b,args:=xs,argTypes:=ats }) {r:AV} (h:callA E T b ats.toList xs.toList = some r) :
  ∃ v,RepA F ρ w r v ∧ (execOp a.eval o).run E.P w = .ok (.value v) w:=by
 rw [execOp_builtin' _ o b xs ats ho]
 have hops:∀ x ∈ xs,x ∈ o.op.operands:=by intro x hx; rw [ho]; simpa [Op.operands,Call.operands] using hx
 unfold callA at h
 split at h
 ·rename_i t x e1 e2
  obtain rfl:=arr1 e1; obtain rfl:=arr1 e2
  split at h
  ·rename_i v hv
   obtain ⟨u,hu,hr⟩:=lenA_run hE (ty:=o.type) (hp.ev (hops x (by simp)) hv) h
   refine ⟨u,hu, ?_⟩
   simp only [builtin,List.map_toArray,List.map_cons,List.map_nil,Sem.run_bind,hr,Result.andThen_ok,Sem.run_pure]
  ·simp at h
 ·rename_i t x e1 e2
  obtain rfl:=arr1 e1; obtain rfl:=arr1 e2
  split at h
  ·rename_i e hk hv
   obtain rfl:=Option.some.inj h
   obtain ⟨d,h1,h2,-⟩:=tk_und hE hk w
   cases d <;> simp [TK.fits] at h2
   have hx:=hp.ev (hops x (by simp)) hv
   generalize hse:a.eval x = sv at hx
   cases hx with | esl ab =>
   refine ⟨.int .i64 0,.i _ _ (.int _ _), ?_⟩
   simp [builtin,hse,Builtin.cap_,h1,goInt]
  ·simp at h
 ·rename_i x y e2
  obtain rfl:=arr2 e2
  split at h
  ·rename_i v u hv hu
   have e:Array.map a.eval #[x,y] = #[a.eval x,a.eval y]:=by simp
   rw [e]
   exact mmA_run (E:=E) (hp.ev (hops x (by simp)) hv) (hp.ev (hops y (by simp)) hu) h
  ·simp at h
 ·rename_i x y e2
  obtain rfl:=arr2 e2
  split at h
  ·rename_i v u hv hu
   have e:Array.map a.eval #[x,y] = #[a.eval x,a.eval y]:=by simp
   rw [e]
   exact mmA_run (E:=E) (hp.ev (hops x (by simp)) hv) (hp.ev (hops y (by simp)) hu) h
  ·simp at h
 ·simp at h
theorem nilA_run {F:Nat → Prop} {ρ:Locs} {w:World} {va r:AV} {a:Value} (ha:RepA F ρ w va a) (h:nilA va = some r) :
  va = r ∧ ((∃ p,a = .pointer (some p)) ∨ ∃ f c,a = .func (.func f) #[] c):=by
 unfold nilA at h
 split at h <;> first | (simp at h; done) | skip
 ·obtain rfl:=Option.some.inj h
  cases ha with | ptr _ _ _ L ho=>exact ⟨rfl,.inl ⟨_,rfl⟩⟩
 ·obtain rfl:=Option.some.inj h
  cases ha with | i _ _ ha =>
  obtain ⟨b,off,rfl,-⟩:=ha.ptr_cells
  exact ⟨rfl,.inl ⟨_,rfl⟩⟩
 ·obtain rfl:=Option.some.inj h
  cases ha with | fn f cap cs hs hr=>exact ⟨rfl,.inr ⟨_,_,rfl⟩⟩
 ·obtain rfl:=Option.some.inj h
  cases ha with | i _ _ ha=>cases ha with | fn f cap cs hs hr=>exact ⟨rfl,.inr ⟨_,_,rfl⟩⟩
theorem value_of {P:Program} {s:Sem Value} {w:World} {v:Value} (h:s.run P w = .ok v w):((do pure (.value (← s)):Sem Next)).run P w = .ok (.value v) w:=by
 simp [h]
theorem qpure_run {E:Env} (hE:E.Ok) {F:Nat → Prop} {ρ:Locs} {T:List (Nat × AV)} {H:List (Nat × Obj)} {o:Oper} {a:Act} {w:World} (hp:Pre E F ρ T H o a w)
  {r:AV} (h:qpure E T H o.op = some r):∃ v,RepA F ρ w r v ∧ (execOp a.eval o).run E.P w = .ok (.value v) w:=by
 cases hop:o.op <;> rw [hop] at h <;> simp only [qpure] at h <;> (try (simp at h; done))
 case move x=>exact ⟨_,hp.evM (by rw [hop]; simp [Op.operands]) h,by unfold execOp; rw [hop]; rfl⟩
 case assign x=>exact ⟨_,hp.evM (by rw [hop]; simp [Op.operands]) h,by unfold execOp; rw [hop]; rfl⟩
 case pick c x y =>
  split at h
  ·rename_i t hc
   have hcv:=(hp.ev (x:=c) (by rw [hop]; simp [Op.operands]) hc).bool_inv
   split at h
   ·rename_i ht
    exact ⟨_,hp.ev (x:=x) (by rw [hop]; simp [Op.operands]) h,by unfold execOp; rw [hop]; simp [hcv,asBool,ht]⟩
   ·rename_i ht
    exact ⟨_,hp.ev (x:=y) (by rw [hop]; simp [Op.operands]) h,by unfold execOp; rw [hop]; simp [hcv,asBool,ht]⟩
  ·simp at h
 case nilCheck x =>
  split at h
  ·rename_i v hv
   have hx:=hp.ev (x:=x) (by rw [hop]; simp [Op.operands]) hv
   obtain ⟨rfl,hh⟩:=nilA_run hx h
   refine ⟨_,hx, ?_⟩
   unfold execOp; rw [hop]
   rcases hh with ⟨p,e⟩ | ⟨f,c,e⟩ <;> (dsimp only; rw [e]; rfl)
  ·simp at h
 case binOp op t x y yt =>
  split at h
  ·rename_i va vb hva hvb
   obtain ⟨q,rfl,hq⟩:=eqOp_run hE (x:=x) (y:=y) (hp.ev (x:=x) (by rw [hop]; simp [Op.operands]) hva) (hp.ev (x:=y) (by rw [hop]; simp [Op.operands]) hvb) h
   exact ⟨_,.i _ _ (.bool q),by unfold execOp; rw [hop]; exact value_of hq⟩
  ·rename_i va hva hvb
   obtain ⟨v,h1,h2⟩:=nilOp_run hE (x:=x) (y:=y) (b:=a.eval y) (hp.ev (x:=x) (by rw [hop]; simp [Op.operands]) hva) (fun v e=>by subst e; rfl) h
   exact ⟨v,h1,by unfold execOp; rw [hop]; exact value_of h2⟩
  ·rename_i va vb _ _ hva hvb
   obtain ⟨r',hr,rfl⟩:=Option.map_eq_some_iff.1 h
   obtain ⟨h1,h2⟩:=binI_run hE (x:=x) (y:=y) (hp.ev (x:=x) (by rw [hop]; simp [Op.operands]) hva) (hp.ev (x:=y) (by rw [hop]; simp [Op.operands]) hvb) hr
   exact ⟨_,.i _ _ (Rep.toV h2),by unfold execOp; rw [hop]; exact value_of h1⟩
  ·simp at h
 case unOp op t x =>
  split at h
  ·rename_i v hv
   obtain ⟨u,h1,h2⟩:=unA_run (E:=E) (hp.ev (x:=x) (by rw [hop]; simp [Op.operands]) hv) h
   exact ⟨u,h1,by unfold execOp; rw [hop]; exact value_of h2⟩
  ·simp at h
 case convert s d x =>
  split at h
  ·rename_i v hv
   obtain ⟨u,h1,h2⟩:=convA_run hE (hp.ev (x:=x) (by rw [hop]; simp [Op.operands]) hv) h
   exact ⟨u,h1,by unfold execOp; rw [hop]; exact value_of h2⟩
  ·simp at h
 case makeFunc fn first cap =>
  cases fn <;> simp only [] at h <;> (try (simp at h; done))
  rename_i f
  split at h
  ·rename_i hf
   subst hf
   obtain ⟨vs,hvs,rfl⟩:=Option.map_eq_some_iff.1 h
   obtain ⟨h1,h2⟩:=hp.evL (xs:=cap.toList) (fun x hx=>by rw [hop]; simpa [Op.operands] using hx) hvs
   refine ⟨.func (.func f) #[] (cap.map a.eval),.fn f vs _ (by simp [h1]) fun j x v hx hv=>h2 j x v hx (by simpa using hv),by unfold execOp; rw [hop]; simp [Instr.makeFunc]⟩
  ·simp at h
 case fieldAddr s x f =>
  split at h
  ·rename_i v hv
   obtain ⟨u,h1,h2⟩:=fieldAddrA_run hE (hp.ev (x:=x) (by rw [hop]; simp [Op.operands]) hv) h
   exact ⟨u,h1,by unfold execOp; rw [hop]; exact value_of h2⟩
  ·simp at h
 case indexAddr t x ix =>
  split at h
  ·rename_i va vb hva hvb
   obtain ⟨u,h1,h2⟩:=indexAddrA_run hE hp.obj (hp.ev (x:=x) (by rw [hop]; simp [Op.operands]) hva) (hp.ev (x:=ix) (by rw [hop]; simp [Op.operands]) hvb) h
   exact ⟨u,h1,by unfold execOp; rw [hop]; exact value_of h2⟩
  ·simp at h
 case field s x f =>
  split at h
  ·rename_i v hv
   obtain ⟨u,h1,h2⟩:=fieldA_run hE (hp.ev (x:=x) (by rw [hop]; simp [Op.operands]) hv) h
   exact ⟨u,h1,by unfold execOp; rw [hop]; exact value_of h2⟩
  ·simp at h
 case index t x ix =>
  split at h
  ·rename_i va vb hva hvb
   obtain ⟨u,h1,h2⟩:=indexA_run hE (hp.ev (x:=x) (by rw [hop]; simp [Op.operands]) hva) (hp.ev (x:=ix) (by rw [hop]; simp [Op.operands]) hvb) h
   exact ⟨u,h1,by unfold execOp; rw [hop]; exact value_of h2⟩
  ·simp at h
 case extract x ix =>
  split at h
  ·rename_i v hv
   obtain ⟨u,h1,h2⟩:=extractA_run (E:=E) (hp.ev (x:=x) (by rw [hop]; simp [Op.operands]) hv) h
   exact ⟨u,h1,by unfold execOp; rw [hop]; exact value_of h2⟩
  ·simp at h
 case slice t x lo hi mx =>
  split at h
  ·rename_i v l hh m hv hl hhi hm
   obtain ⟨l1,l2⟩:=hp.evO (x:=lo) (fun y e=>by rw [hop]; simp [Op.operands,e]) hl
   obtain ⟨i1,i2⟩:=hp.evO (x:=hi) (fun y e=>by rw [hop]; simp [Op.operands,e]) hhi
   obtain ⟨m1,m2⟩:=hp.evO (x:=mx) (fun y e=>by rw [hop]; simp [Op.operands,e]) hm
   obtain ⟨u,h1,h2⟩:=sliceA_run hE hp.obj (hp.ev (x:=x) (by rw [hop]; simp [Op.operands]) hv) l1 l2 i1 i2 m1 m2 h
   exact ⟨u,h1,by unfold execOp; rw [hop]; exact value_of h2⟩
  ·simp at h
 case load t x =>
  split at h
  ·rename_i v hv
   obtain ⟨u,h1,h2⟩:=loadA_run hE hp.obj (hp.ev (x:=x) (by rw [hop]; simp [Op.operands]) hv) h
   exact ⟨u,h1,by unfold execOp; rw [hop]; exact value_of h2⟩
  ·simp at h
 case lookup t m k ok =>
  cases ok <;> simp only [] at h <;> (try (simp at h; done))
  split at h
  ·rename_i v u hv hu
   obtain ⟨c,h1,h2⟩:=lookA_run hE (hp.ev (x:=m) (by rw [hop]; simp [Op.operands]) hv) (hp.ev (x:=k) (by rw [hop]; simp [Op.operands]) hu) h
   exact ⟨c,h1,by unfold execOp; rw [hop]; exact value_of h2⟩
  ·simp at h
 case build t ps =>
  obtain ⟨u,h1,h2⟩:=buildV_run hE hp (fun p hpp=>by rw [hop]; simp only [Op.operands]; exact List.mem_toArray.2 (List.mem_map.2 ⟨p,hpp,rfl⟩)) h
  exact ⟨u,h1,by unfold execOp; rw [hop]; exact value_of h2⟩
 case call c =>
  obtain ⟨callee,xs,ats⟩:=c
  cases callee <;> simp only [] at h <;> (try (simp at h; done))
  exact callA_run hE hp hop h
end Go.Vai
