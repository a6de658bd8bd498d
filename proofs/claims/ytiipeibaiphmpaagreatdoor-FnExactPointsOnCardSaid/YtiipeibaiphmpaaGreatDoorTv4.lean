/- Texts of this claim: Zv4. -/
import Derived.Test.YtiipeibaiphmpaaGreatDoorTv3
set_option linter.unusedVariables false
set_option linter.unusedSimpArgs false
namespace Go.Vai
def fieldA (E:Env) (s:TypeId) (f:Nat) (v:AV):Option AV :=
 match fieldOf E s f with
 | some (off,i)=>match v with
  | .agg cells=>if off + i.size ≤ cells.length then valOf i.k ((cells.drop off).take i.size) else none
  | _=>none
 | none=>none
def indexA (E:Env) (t:TypeId) (x ix:AV):Option AV :=
 match ix with
 | .i (.int _ i)=>if i < 0 then none else match tkOf E t with
  | some .string=>match x with
   | .i (.str s)=>match s[i.toNat]? with
    | some b=>some (.i (.int .u8 b.toNat))
    | none=>none
   | _=>none
  | some (.arr n elem)=>if i < n then match E.τ elem with
    | some ei=>match x with
     | .agg cells=>if i.toNat * ei.size + ei.size ≤ cells.length then valOf ei.k ((cells.drop (i.toNat * ei.size)).take ei.size) else none
     | _=>none
    | none=>none
   else none
  | _=>none
 | _=>none
theorem part_run {E:Env} (hE:E.Ok) {F:Nat → Prop} {ρ:Locs} {w:World} {t:TypeId} {i:TyI} (hi:E.τ t = some i) {cells:List IV} {cs:Array Value} {off:Nat} {r:AV}
  (hs:cs.size = cells.length) (hc:∀ (j:Nat) (x:IV) (v:Value),cells[j]? = some x → cs[j]? = some v → Rep F w x v) (hn:off + i.size ≤ cells.length)
  (hr:valOf i.k ((cells.drop off).take i.size) = some r):∃ v,RepA F ρ w r v ∧ (part t cs off).run E.P w = .ok v w:=by
 unfold part
 rw [Sem.run_bind,isAgg_run hE hi,Result.andThen_ok]
 unfold valOf at hr
 split at hr
 ·rename_i ha
  obtain rfl:=Option.some.inj hr
  refine ⟨.agg (cs.extract off (off + i.size)),.agg _ _ (by simp; omega) fun j x v hx hv=>?_,by simp [ha,size_run hE hi]⟩
  rw [List.getElem?_take] at hx
  split at hx
  ·rename_i hj
   rw [List.getElem?_drop] at hx
   rw [Array.getElem?_extract] at hv
   split at hv
   ·exact hc (off + j) x v hx hv
   ·simp at hv
  ·simp at hx
 ·rename_i ha
  split at hr
  ·rename_i x hx
   obtain rfl:=Option.some.inj hr
   have h0:cells[off]? = some x:=by
    have:=congrArg (fun l=>l[0]?) hx
    simp only [List.getElem?_cons_zero] at this
    rw [List.getElem?_take] at this
    split at this
    ·simpa using this
    ·simp at this
   have hlt:off < cs.size:=by rw [hs]; exact (List.getElem?_eq_some_iff.1 h0).1
   refine ⟨cs[off],.i _ _ (hc off x _ h0 (Array.getElem?_eq_getElem hlt)), ?_⟩
   rw [Bool.not_eq_true] at ha
   simp [ha,Array.getElem?_eq_getElem hlt]
  ·simp at hr
theorem fieldA_run {E:Env} (hE:E.Ok) {F:Nat → Prop} {ρ:Locs} {w:World} {s:TypeId} {f:Nat} {va r:AV} {a:Value}
  (ha:RepA F ρ w va a) (h:fieldA E s f va = some r):∃ v,RepA F ρ w r v ∧ (Instr.field s a f).run E.P w = .ok v w:=by
 unfold fieldA at h
 split at h
 ·rename_i off i hf
  obtain ⟨gs,g,h1,h2,rfl,h4⟩:=fieldOf_spec hE hf w
  split at h
  ·rename_i cells
   split at h
   ·rename_i hn
    cases ha with | agg _ cs hs hc =>
    obtain ⟨v,hv,hrun⟩:=part_run hE (ρ:=ρ) h4 hs hc hn h
    exact ⟨v,hv,by simp [Instr.field,h1,h2,asAgg,hrun]⟩
   ·simp at h
  ·simp at h
 ·simp at h
theorem indexA_run {E:Env} (hE:E.Ok) {F:Nat → Prop} {ρ:Locs} {w:World} {t:TypeId} {va vi r:AV} {a ix:Value}
  (ha:RepA F ρ w va a) (hix:RepA F ρ w vi ix) (h:indexA E t va vi = some r):∃ v,RepA F ρ w r v ∧ (Instr.index t a ix).run E.P w = .ok v w:=by
 unfold indexA at h
 split at h
 ·rename_i k i
  obtain rfl:=hix.int_inv
  split at h
  ·simp at h
  ·rename_i h0
   have hi0:0 ≤ i:=by omega
   split at h
   ·rename_i hk
    obtain ⟨d,h1,h2,-⟩:=tk_und hE hk w
    cases d <;> simp [TK.fits] at h2
    split at h
    ·rename_i s
     obtain rfl:=ha.str_inv
     split at h
     ·rename_i b hb
      obtain rfl:=Option.some.inj h
      exact ⟨_,.i _ _ (.int _ _),by simp [Instr.index,asIntOf,h1,hi0,hb]⟩
     ·simp at h
    ·simp at h
   ·rename_i n e hk
    obtain ⟨d,h1,h2,-⟩:=tk_und hE hk w
    cases d <;> simp [TK.fits] at h2
    obtain ⟨rfl,rfl⟩:=h2
    split at h
    ·rename_i hlt
     split at h
     ·rename_i ei he
      split at h
      ·rename_i cells
       split at h
       ·rename_i hn
        cases ha with | agg _ cs hs hc =>
        obtain ⟨v,hv,hrun⟩:=part_run hE (ρ:=ρ) he hs hc hn h
        exact ⟨v,hv,by simp [Instr.index,asIntOf,h1,hi0,hlt,size_run hE he,hrun]⟩
       ·simp at h
      ·simp at h
     ·simp at h
    ·simp at h
   ·simp at h
 ·simp at h
def extractA (v:AV) (ix:Nat):Option AV :=
 match v with
 | .tup vs=>vs[ix]?
 | _=>none
theorem extractA_run {E:Env} {F:Nat → Prop} {ρ:Locs} {w:World} {ix:Nat} {va r:AV} {a:Value}
  (ha:RepA F ρ w va a) (h:extractA va ix = some r):∃ v,RepA F ρ w r v ∧ (Instr.extract a ix).run E.P w = .ok v w:=by
 unfold extractA at h
 split at h
 ·rename_i vs
  cases ha with | tup _ cs hs hr =>
  have hlt:ix < cs.size:=by rw [hs]; exact (List.getElem?_eq_some_iff.1 h).1
  exact ⟨cs[ix],hr ix r _ h (Array.getElem?_eq_getElem hlt),by simp [Instr.extract,Array.getElem?_eq_getElem hlt]⟩
 ·simp at h
def allLen (n:Nat) (els:List (List IV)):Bool:=els.all fun el=>el.length == n
def boundA (v:Option AV) (d:Nat):Option Nat :=
 match v with
 | none=>some d
 | some (.i (.int _ n))=>if 0 ≤ n then some n.toNat else none
 | _=>none
def sliceA (E:Env) (H:List (Nat × Obj)) (t:TypeId) (x:AV) (lo hi mx:Option AV):Option AV :=
 match mx with
 | some m=>match tkOf E t,lo,hi,m with
  | some (.slice e),none,some (.i (.int _ 0)),.i (.int _ 0)=>match E.τ e,x with
   | some _,.own ..=>some .esl
   | some _,.i (.sl _)=>some .esl
   | some _,.esl=>some .esl
   | _,_=>none
  | _,_,_,_=>none
 | none=>match tkOf E t with
  | some (.slice e)=>match E.τ e with
   | some ei=>match x with
    | .own o off len=>match look H o,boundA lo 0,boundA hi len with
     | some ob,some l,some h=>if l ≤ h ∧ h ≤ len ∧ ob.sz = ei.size then some (.own o (off + l) (h - l)) else none
     | _,_,_=>none
    | .i (.sl els)=>match boundA lo 0,boundA hi els.length with
     | some l,some h=>if l ≤ h ∧ h ≤ els.length ∧ allLen ei.size els = true then some (.i (.sl ((els.drop l).take (h - l)))) else none
     | _,_=>none
    | .esl=>match boundA lo 0,boundA hi 0 with
     | some 0,some 0=>some .esl
     | _,_=>none
    | _=>none
   | none=>none
  | some .string=>match x with
   | .i (.str s)=>match boundA lo 0,boundA hi s.size with
    | some l,some h=>if l ≤ h ∧ h ≤ s.size then some (.i (.str (s.extract l h))) else none
    | _,_=>none
   | _=>none
  | _=>none
theorem boundA_run {P:Program} {w:World} {F:Nat → Prop} {ρ:Locs} {va:Option AV} {v:Option Value} {d n y:Nat} {code:BoundsCode}
  (hv:∀ a,va = some a → ∃ c,v = some c ∧ RepA F ρ w a c) (hn:va = none → v = none) (h:boundA va d = some n) (hy:n ≤ y) :
  (v = none ∧ n = d) ∨ ∃ c,v = some c ∧ (Instr.sliceBound c y code).run P w = .ok n w:=by
 unfold boundA at h
 split at h
 ·exact .inl ⟨hn rfl,(Option.some.inj h).symm⟩
 ·rename_i k m
  split at h
  ·rename_i h0
   obtain ⟨c,rfl,hc⟩:=hv _ rfl
   obtain rfl:=hc.int_inv
   obtain rfl:=Option.some.inj h
   refine .inr ⟨_,rfl, ?_⟩
   have:m ≤ (y:Int):=by omega
   simp [Instr.sliceBound,asIntOf,h0,this]
  ·simp at h
 ·simp at h
theorem bounds_run {P:Program} {w:World} {F:Nat → Prop} {ρ:Locs} {lo hi:Option AV} {cl ch:Option Value} {len cap l h:Nat} (s:Bool)
  (hlo:∀ a,lo = some a → ∃ c,cl = some c ∧ RepA F ρ w a c) (hlo':lo = none → cl = none) (hhi:∀ a,hi = some a → ∃ c,ch = some c ∧ RepA F ρ w a c) (hhi':hi = none → ch = none)
  (el:boundA lo 0 = some l) (eh:boundA hi len = some h) (h1:l ≤ h) (h2:h ≤ cap) :
  (Instr.sliceBounds s len cap cl ch none).run P w = .ok (l,h,cap) w:=by
 rcases boundA_run (P:=P) (y:=cap) (code:=if s then .sliceAcap else .sliceAlen) hhi hhi' eh h2 with ⟨rfl,rfl⟩ | ⟨c,rfl,hr⟩ <;>
  rcases boundA_run (P:=P) (y:=h) (code:=.sliceB) hlo hlo' el h1 with ⟨rfl,rfl⟩ | ⟨c',rfl,hr'⟩
 ·simp [Instr.sliceBounds]
 ·simp [Instr.sliceBounds,hr']
 ·unfold Instr.sliceBounds; simp only [Sem.run_bind,Sem.run_pure,Result.andThen_ok,hr]
 ·unfold Instr.sliceBounds; simp only [Sem.run_bind,Sem.run_pure,Result.andThen_ok,hr,Option.isSome_none,Bool.false_eq_true,if_false,hr']
theorem allLen_spec {n:Nat} {els:List (List IV)} (h:allLen n els = true):∀ el ∈ els,el.length = n:=by
 intro el he
 have:=List.all_eq_true.1 h el he
 simpa using this
theorem sliceA_run {E:Env} (hE:E.Ok) {F:Nat → Prop} {ρ:Locs} {H:List (Nat × Obj)} {w:World} {t:TypeId} {va r:AV} {a:Value} {lo hi mx:Option AV} {cl ch cm:Option Value}
  (hobj:∀ id ob L,look H id = some ob → ρ id = some L → ObjRep F w ob L)
  (ha:RepA F ρ w va a) (hlo:∀ a,lo = some a → ∃ c,cl = some c ∧ RepA F ρ w a c) (hlo':lo = none → cl = none) (hhi:∀ a,hi = some a → ∃ c,ch = some c ∧ RepA F ρ w a c) (hhi':hi = none → ch = none)
  (hmx:∀ a,mx = some a → ∃ c,cm = some c ∧ RepA F ρ w a c) (hmx':mx = none → cm = none)
  (h:sliceA E H t va lo hi mx = some r):∃ v,RepA F ρ w r v ∧ (Instr.sliceAt t a cl ch cm).run E.P w = .ok v w:=by
 unfold sliceA at h
 split at h
 ·rename_i m
  obtain ⟨cm',rfl,hm⟩:=hmx _ rfl
  split at h
  ·rename_i e k1 k2 hk
   obtain ⟨d,h1,h2,-⟩:=tk_und hE hk w
   cases d <;> simp [TK.fits] at h2
   subst h2
   obtain rfl:=hlo' rfl
   obtain ⟨ch',rfl,hh⟩:=hhi _ rfl
   obtain rfl:=hh.int_inv
   obtain rfl:=hm.int_inv
   have key:∀ (ad:Option Addr) len c i,E.τ e = some i → ∃ v,RepA F ρ w .esl v ∧ (Instr.sliceAt t (.slice ad len c) none (some (.int k1 0)) (some (.int k2 0))).run E.P w = .ok v w:=by
    intro ad len c i hi
    refine ⟨.slice ad 0 0,.esl ad, ?_⟩
    simp [Instr.sliceAt,h1,Instr.slice,Instr.sliceBounds,Instr.sliceBound,asIntOf,size_run hE hi]
   split at h
   ·rename_i i _ _ _ hi
    obtain rfl:=Option.some.inj h
    cases ha with
    | own _ _ _ c L ho hm hl hN=>exact key _ _ _ _ hi
    | ownE _ _ ad=>exact key _ _ _ _ hi
   ·rename_i i els hi
    obtain rfl:=Option.some.inj h
    cases ha with | i _ _ ha =>
    rcases ha.sl_inv with ⟨rfl,ad,c,rfl⟩ | ⟨b,off,c,sz,rfl,hF,hlc,hsz,hc⟩
    ·exact key _ _ _ _ hi
    ·exact key _ _ _ _ hi
   ·rename_i i hi
    obtain rfl:=Option.some.inj h
    cases ha with | esl ad=>exact key _ _ _ _ hi
   ·simp at h
  ·simp at h
 ·obtain rfl:=hmx' rfl
  split at h
  ·rename_i e hk
   obtain ⟨d,h1,h2,-⟩:=tk_und hE hk w
   cases d <;> simp [TK.fits] at h2
   subst h2
   split at h
   ·rename_i ei he
    have key:∀ (ad:Option Addr) len c l h,boundA lo 0 = some l → boundA hi len = some h → l ≤ h → h ≤ c →
      (Instr.sliceAt t (.slice ad len c) cl ch none).run E.P w = .ok (.slice (if c = l then ad else ad.map (·.add (l * ei.size))) (h - l) (c - l)) w:=by
     intro ad len c l h e1 e2 e3 e4
     have hb:=bounds_run (P:=E.P) true hlo hlo' hhi hhi' e1 e2 e3 e4
     simp [Instr.sliceAt,h1,Instr.slice,hb,size_run hE he]
    split at h
    ·rename_i o off len
     split at h
     ·rename_i ob l hh hob el eh
      split at h
      ·rename_i hlh
       obtain rfl:=Option.some.inj h
       cases ha with
       | own _ _ _ c L ho hm hl hN =>
        refine ⟨_, ?_,key _ _ _ _ _ el eh hlh.1 (by omega)⟩
        by_cases hcl:c = l
        ·have:hh - l = 0:=by omega
         rw [this,if_pos hcl,hcl,Nat.sub_self]
         exact .ownE _ _ _
        ·rw [if_neg hcl]
         have hsz:=(hobj o ob L hob ho).sz.trans hlh.2.2
         simp only [Option.map_some,add_plain]
         rw [show L.base + off * L.sz + l * ei.size = L.base + (off + l) * L.sz by rw [hsz,Nat.add_mul,Nat.add_assoc]]
         exact .own o (off + l) (hh - l) (c - l) L ho (by omega) (by omega) (by rw [show off + l + (c - l) = off + c by omega]; exact hN)
       | ownE _ _ ad =>
        have e0:hh - l = 0:=by omega
        have e1:l = 0:=by omega
        refine ⟨_, ?_,key _ _ _ _ _ el eh hlh.1 (by omega)⟩
        rw [e0]; subst e1; exact .ownE _ _ _
      ·simp at h
     ·simp at h
    ·rename_i els
     split at h
     ·rename_i l hh el eh
      split at h
      ·rename_i hlh
       obtain rfl:=Option.some.inj h
       cases ha with | i _ _ ha =>
       rcases ha.sl_inv with ⟨rfl,ad,c,rfl⟩ | ⟨b,off,c,sz,rfl,hF,hlc,hsz,hc⟩
       ·simp only [List.length_nil] at hlh eh
        have e0:hh = 0:=by omega
        have e1:l = 0:=by omega
        subst e0; subst e1
        exact ⟨_,.i _ _ (by simp; exact .slE _ _),key _ _ _ _ _ el eh (by omega) (by omega)⟩
       ·refine ⟨_,.i _ _ ?_,key _ _ _ _ _ el eh hlh.1 (by omega)⟩
        by_cases hnil:hh - l = 0
        ·simp [hnil]; exact .slE _ _
        ·rw [if_neg (by omega)]
         have hsz':=allLen_spec hlh.2.2
         have hlen:((els.drop l).take (hh - l)).length = hh - l:=by simp; omega
         simp only [Option.map_some,add_plain]
         have:=Rep.of_els (F:=F) (w:=w) (els:=(els.drop l).take (hh - l)) (b:=b) (off:=off + l * ei.size) (c:=c - l) (sz:=ei.size) hF (by rw [hlen]; omega)
          (fun x hx=>hsz' x (List.mem_of_mem_drop (List.mem_of_mem_take hx))) (fun i x hx=>by
           rw [List.getElem?_take] at hx
           split at hx
           ·rw [List.getElem?_drop] at hx
            have:=hc (l + i) x hx
            obtain rfl:sz = ei.size:=(hsz x (List.mem_of_getElem? hx)).symm.trans (hsz' x (List.mem_of_getElem? hx))
            rwa [Nat.add_mul,← Nat.add_assoc] at this
           ·simp at hx)
         rwa [hlen] at this
      ·simp at h
     ·simp at h
    ·split at h
     ·rename_i el eh
      obtain rfl:=Option.some.inj h
      cases ha with | esl ad =>
      exact ⟨_,by simp; exact .esl _,key _ _ _ _ _ el eh (by omega) (by omega)⟩
     ·simp at h
    ·simp at h
   ·simp at h
  ·rename_i hk
   obtain ⟨d,h1,h2,-⟩:=tk_und hE hk w
   cases d <;> simp [TK.fits] at h2
   split at h
   ·rename_i s
    obtain rfl:=ha.str_inv
    split at h
    ·rename_i l hh el eh
     split at h
     ·rename_i hlh
      obtain rfl:=Option.some.inj h
      have hb:=bounds_run (P:=E.P) false hlo hlo' hhi hhi' el eh hlh.1 hlh.2
      exact ⟨_,.i _ _ (.str _),by simp [Instr.sliceAt,h1,Instr.slice,hb]⟩
     ·simp at h
    ·simp at h
   ·simp at h
  ·simp at h
def lenA (E:Env) (t:TypeId) (x:AV):Option AV :=
 match tkOf E t with
 | some (.slice _)=>match x with
  | .own _ _ len=>some (.i (.int .i64 len))
  | .i (.sl els)=>some (.i (.int .i64 els.length))
  | .esl=>some (.i (.int .i64 0))
  | _=>none
 | some .string=>match x with
  | .i (.str s)=>some (.i (.int .i64 s.size))
  | _=>none
 | some (.arr n _)=>some (.i (.int .i64 n))
 | _=>none
theorem lenA_run {E:Env} (hE:E.Ok) {F:Nat → Prop} {ρ:Locs} {w:World} {t ty:TypeId} {va r:AV} {a:Value}
  (ha:RepA F ρ w va a) (h:lenA E t va = some r):∃ v,RepA F ρ w r v ∧ (Builtin.len_ #[t] ty #[a]).run E.P w = .ok v w:=by
 unfold lenA at h
 split at h
 ·rename_i e hk
  obtain ⟨d,h1,h2,-⟩:=tk_und hE hk w
  cases d <;> simp [TK.fits] at h2
  have key:∀ (ad:Option Addr) (len c:Nat),(Builtin.len_ #[t] ty #[.slice ad len c]).run E.P w = .ok (.int .i64 len) w:=by
   intro ad len c; simp [Builtin.len_,h1,goInt]
  split at h
  ·obtain rfl:=Option.some.inj h
   cases ha with
   | own _ _ _ c L ho hm hl hN=>exact ⟨_,.i _ _ (.int _ _),key _ _ _⟩
   | ownE _ _ ad=>exact ⟨_,.i _ _ (.int _ _),key _ _ _⟩
  ·obtain rfl:=Option.some.inj h
   cases ha with | i _ _ ha =>
   rcases ha.sl_inv with ⟨rfl,ad,c,rfl⟩ | ⟨b,off,c,sz,rfl,hF,hlc,hsz,hc⟩
   ·exact ⟨_,.i _ _ (.int _ _),key _ _ _⟩
   ·exact ⟨_,.i _ _ (.int _ _),key _ _ _⟩
  ·obtain rfl:=Option.some.inj h
   cases ha with | esl ad=>exact ⟨_,.i _ _ (.int _ _),key _ _ _⟩
  ·simp at h
 ·rename_i hk
  obtain ⟨d,h1,h2,-⟩:=tk_und hE hk w
  cases d <;> simp [TK.fits] at h2
  split at h
  ·obtain rfl:=ha.str_inv
   obtain rfl:=Option.some.inj h
   exact ⟨_,.i _ _ (.int _ _),by simp [Builtin.len_,h1,goInt]⟩
  ·simp at h
 ·rename_i n e hk
  obtain ⟨d,h1,h2,-⟩:=tk_und hE hk w
  cases d <;> simp [TK.fits] at h2
  obtain ⟨rfl,rfl⟩:=h2
  obtain rfl:=Option.some.inj h
  exact ⟨_,.i _ _ (.int _ _),by simp [Builtin.len_,h1,goInt]⟩
 ·simp at h
def unA (op:UnOp) (v:AV):Option AV :=
 match op,v with
 | .neg,.i (.int k n)=>some (.i (.int k (k.wrap (0 - n))))
 | .not,.i (.bool b)=>some (.i (.bool (!b)))
 | _,_=>none
theorem unA_run {E:Env} {F:Nat → Prop} {ρ:Locs} {w:World} {op:UnOp} {va r:AV} {a:Value}
  (ha:RepA F ρ w va a) (h:unA op va = some r):∃ v,RepA F ρ w r v ∧ (Op.unary op a).run E.P w = .ok v w:=by
 unfold unA at h
 split at h
 ·obtain rfl:=ha.int_inv; obtain rfl:=Option.some.inj h
  exact ⟨_,.i _ _ (.int _ _),by simp [Op.unary,Op.intArith]⟩
 ·obtain rfl:=ha.bool_inv; obtain rfl:=Option.some.inj h
  exact ⟨_,.i _ _ (.bool _),by simp [Op.unary]⟩
 ·simp at h
def convA (E:Env) (src dst:TypeId) (v:AV):Option AV :=
 match tkOf E src with
 | some _=>match tkOf E dst with
  | some (.int k)=>match v with
   | .i (.int _ n)=>some (.i (.int k (k.wrap n)))
   | _=>none
  | _=>none
 | none=>none
theorem convA_run {E:Env} (hE:E.Ok) {F:Nat → Prop} {ρ:Locs} {w:World} {src dst:TypeId} {va r:AV} {a:Value}
  (ha:RepA F ρ w va a) (h:convA E src dst va = some r):∃ v,RepA F ρ w r v ∧ (convert src dst a).run E.P w = .ok v w:=by
 unfold convA at h
 split at h
 ·rename_i _ hs
  split at h
  ·rename_i k hd
   split at h
   ·rename_i k' n
    obtain ⟨d,h1,-⟩:=tk_und hE hs w
    obtain ⟨d',h1',h2',-⟩:=tk_und hE hd w
    cases d' <;> simp [TK.fits] at h2'
    subst h2'
    obtain rfl:=ha.int_inv; obtain rfl:=Option.some.inj h
    refine ⟨_,.i _ _ (.int _ _), ?_⟩
    unfold convert
    simp only [Sem.run_bind,h1,h1',Result.andThen_ok]
    rfl
   ·simp at h
  ·simp at h
 ·simp at h
def mmA (b:Builtin) (x y:AV):Option AV :=
 match b,x,y with
 | .max,.i (.int k m),.i (.int _ n)=>some (.i (.int k (if n > m then n else m)))
 | .min,.i (.int k m),.i (.int _ n)=>some (.i (.int k (if n < m then n else m)))
 | _,_,_=>none
theorem mmA_run {E:Env} {F:Nat → Prop} {ρ:Locs} {w:World} {b:Builtin} {ats:Array TypeId} {ty:TypeId} {cs:Array Bool} {va vb r:AV} {x y:Value}
  (ha:RepA F ρ w va x) (hb:RepA F ρ w vb y) (h:mmA b va vb = some r):∃ v,RepA F ρ w r v ∧ (builtin b ats ty cs #[x,y]).run E.P w = .ok (.value v) w:=by
 unfold mmA at h
 split at h
 ·obtain rfl:=ha.int_inv; obtain rfl:=hb.int_inv; obtain rfl:=Option.some.inj h
  exact ⟨_,.i _ _ (.int _ _),by simp [builtin,Builtin.max_,Builtin.max2]⟩
 ·obtain rfl:=ha.int_inv; obtain rfl:=hb.int_inv; obtain rfl:=Option.some.inj h
  exact ⟨_,.i _ _ (.int _ _),by simp [builtin,Builtin.min_,Builtin.min2]⟩
 ·simp at h
end Go.Vai
