/- Texts of this claim: Zv1. -/
import Derived.Orders
import Derived.Below
import Derived.Laws.Sem
import Derived.KernelRfl
set_option linter.unusedVariables false
set_option linter.unusedSimpArgs false
namespace Go.Vai
structure Below (B:Nat) (w w':World):Prop where
 os:w'.os = w.os
 tape:w'.tape = w.tape
 output:w'.output = w.output
 size:w.heap.size ≤ w'.heap.size
 block:∀ k,k < B → w'.heap[k]? = w.heap[k]?
 drawn:w.drawn ≤ w'.drawn
theorem Below.kit {B:Nat} {w w':World} (h:Below B w w'):Go.RowKit.Below B w w':=⟨h.os,h.tape,h.output,h.size,h.block⟩
theorem Below.frame {W w':World} (h:Below W.heap.size W w') (may:MemPlace → Prop):W.keptBut w' may:=h.kit.frame may
theorem Below.refl (B:Nat) (w:World):Below B w w:=⟨rfl,rfl,rfl,Nat.le_refl _,fun _ _=>rfl,Nat.le_refl _⟩
theorem Below.trans {B:Nat} {a b c:World} (h:Below B a b) (k:Below B b c):Below B a c :=
 ⟨k.os.trans h.os,k.tape.trans h.tape,k.output.trans h.output,Nat.le_trans h.size k.size,fun i hi=>(k.block i hi).trans (h.block i hi),Nat.le_trans h.drawn k.drawn⟩
theorem Below.drew {B:Nat} {a w:World} (h:Below B a w):Below B a w.drew:=⟨h.os,h.tape,h.output,h.size,h.block,Nat.le_trans h.drawn (Nat.le_succ _)⟩
theorem Below.heap_alloc (w:World) (o:_root_.Go.Obj) (k:Nat) (h:k < w.heap.size):(w.alloc o).heap[k]? = w.heap[k]?:=Go.RowKit.Below.heap_alloc w o k h
theorem Below.alloc {B:Nat} {a w:World} (h:Below B a w) (hB:B ≤ w.heap.size) (o:_root_.Go.Obj):Below B a (w.alloc o) :=
 h.trans ⟨rfl,rfl,rfl,by simp,fun k hk=>Below.heap_alloc _ _ _ (by omega),Nat.le_refl _⟩
inductive IV where
 | int (k:IntKind) (n:Int)
 | bool (b:Bool)
 | str (s:ByteArray)
 | sl (els:List (List IV))
 | ptr (cells:List IV)
 | fn (f:FuncId) (cap:List IV)
 | raw (v:Value)
 | mp (f:Int → IV)
 deriving Inhabited
inductive Rep (F:Nat → Prop) (w:World):IV → Value → Prop
 | int (k:IntKind) (n:Int):Rep F w (.int k n) (.int k n)
 | bool (b:Bool):Rep F w (.bool b) (.bool b)
 | str (s:ByteArray):Rep F w (.str s) (.string s)
 | slE (a:Option Addr) (c:Nat):Rep F w (.sl []) (.slice a 0 c)
 | sl (els:List (List IV)) (b off c sz:Nat) (cv:Nat → Nat → Value) (hF:F b) (hlc:els.length ≤ c) (hsz:∀ el ∈ els,el.length = sz)
   (hc:∀ (i:Nat) (el:List IV) (j:Nat) (x:IV),els[i]? = some el → el[j]? = some x → w.cell? ⟨b,off + i * sz + j,none⟩ = some (cv i j))
   (hr:∀ (i:Nat) (el:List IV) (j:Nat) (x:IV),els[i]? = some el → el[j]? = some x → Rep F w x (cv i j)):Rep F w (.sl els) (.slice (some ⟨b,off,none⟩) els.length c)
 | ptr (cells:List IV) (b off:Nat) (cv:Nat → Value) (hF:F b)
   (hc:∀ (j:Nat) (x:IV),cells[j]? = some x → w.cell? ⟨b,off + j,none⟩ = some (cv j))
   (hr:∀ (j:Nat) (x:IV),cells[j]? = some x → Rep F w x (cv j)):Rep F w (.ptr cells) (.pointer (some ⟨b,off,none⟩))
 | fn (f:FuncId) (cap:List IV) (cs:Array Value) (hs:cs.size = cap.length)
   (hr:∀ (j:Nat) (x:IV) (v:Value),cap[j]? = some x → cs[j]? = some v → Rep F w x v):Rep F w (.fn f cap) (.func (.func f) #[] cs)
 | raw (v:Value) (hv:v.oneCell' = true):Rep F w (.raw v) v
 | mp (f:Int → IV) (b:Nat) (es:Array MapEntry) (clock:Nat) (cv:Int → Value) (hF:F b) (hm:w.heap[b]? = some (.map es clock))
   (hl:∀ k:Int,0 ≤ k → k ≤ 1048576 → (Instr.findNow (.int .i64) (.int .i64 k) es.toList 0 = some none ∧ cv k = .slice none 0 0) ∨ ∃ i,Instr.findNow (.int .i64) (.int .i64 k) es.toList 0 = some (some (i,cv k)))
   (hr:∀ k:Int,0 ≤ k → k ≤ 1048576 → Rep F w (f k) (cv k)):Rep F w (.mp f) (.map (some b))
theorem cell_of_heap {w w':World} {a:Addr} (h:w'.heap[a.block]? = w.heap[a.block]?):w'.cell? a = w.cell? a:=by
 simp only [World.cell?,h]
theorem Rep.mono {F F':Nat → Prop} {w w':World} (hF:∀ b,F b → F' b) (hw:∀ b,F b → w'.heap[b]? = w.heap[b]?) {x:IV} {v:Value}
  (h:Rep F w x v):Rep F' w' x v:=by
 induction h with
 | int k n=>exact .int k n
 | bool b=>exact .bool b
 | str s=>exact .str s
 | slE a c=>exact .slE a c
 | sl els b off c sz cv hb hlc hsz hc hr ih =>
  exact .sl els b off c sz cv (hF b hb) hlc hsz (fun i el j x h1 h2=>by rw [cell_of_heap (hw b hb)]; exact hc i el j x h1 h2) ih
 | ptr cells b off cv hb hc hr ih =>
  exact .ptr cells b off cv (hF b hb) (fun j x h1=>by rw [cell_of_heap (hw b hb)]; exact hc j x h1) ih
 | fn f cap cs hs hr ih=>exact .fn f cap cs hs ih
 | raw v hv=>exact .raw v hv
 | mp f b es clock cv hb hm hl hr ih=>exact .mp f b es clock cv (hF b hb) ((hw b hb).trans hm) hl ih
def IV.flat:IV → Bool
 | .int .. | .bool _ | .str _ | .sl []=>true
 | .raw v=>v.oneCell'
 | _=>false
theorem Rep.of_flat {F F':Nat → Prop} {w w':World} {x:IV} {v:Value} (h:Rep F w x v) (hx:x.flat = true):Rep F' w' x v:=by
 cases h with
 | int k n=>exact .int k n
 | bool b=>exact .bool b
 | str s=>exact .str s
 | slE a c=>exact .slE a c
 | sl els b off c sz cv hb hlc hsz hc hr =>
  cases els with
  | nil=>exact .slE _ _
  | cons a l=>simp [IV.flat] at hx
 | ptr=>simp [IV.flat] at hx
 | fn=>simp [IV.flat] at hx
 | raw v hv=>exact .raw v hv
 | mp=>simp [IV.flat] at hx
structure Obj where
 sz:Nat
 els:List (List IV)
structure Loc where
 b:Nat
 base:Nat
 sz:Nat
 N:Nat
 m:Nat
inductive AV where
 | i (v:IV)
 | agg (cells:List IV)
 | tup (vs:List AV)
 | own (o off len:Nat)
 | ptr (o e j:Nat)
 | fn (f:FuncId) (cap:List AV)
 | esl
 | cell (o off len:Nat)
 | pin (v:Value) (x:AV)
 | dead
 deriving Inhabited
abbrev Locs:=Nat → Option Loc
inductive RepA (F:Nat → Prop) (ρ:Locs) (w:World):AV → Value → Prop
 | i (x:IV) (v:Value) (h:Rep F w x v):RepA F ρ w (.i x) v
 | agg (cells:List IV) (cs:Array Value) (hs:cs.size = cells.length)
   (hr:∀ (j:Nat) (x:IV) (v:Value),cells[j]? = some x → cs[j]? = some v → Rep F w x v):RepA F ρ w (.agg cells) (.agg cs)
 | tup (vs:List AV) (cs:Array Value) (hs:cs.size = vs.length)
   (hr:∀ (j:Nat) (x:AV) (v:Value),vs[j]? = some x → cs[j]? = some v → RepA F ρ w x v):RepA F ρ w (.tup vs) (.tuple cs)
 | own (o off len c:Nat) (L:Loc) (ho:ρ o = some L) (hm:off + len ≤ L.m) (hl:len ≤ c) (hN:L.base + (off + c) * L.sz ≤ L.N) :
   RepA F ρ w (.own o off len) (.slice (some ⟨L.b,L.base + off * L.sz,none⟩) len c)
 | ownE (o off:Nat) (a:Option Addr):RepA F ρ w (.own o off 0) (.slice a 0 0)
 | ptr (o e j:Nat) (L:Loc) (ho:ρ o = some L):RepA F ρ w (.ptr o e j) (.pointer (some ⟨L.b,L.base + e * L.sz + j,none⟩))
 | fn (f:FuncId) (cap:List AV) (cs:Array Value) (hs:cs.size = cap.length)
   (hr:∀ (j:Nat) (x:AV) (v:Value),cap[j]? = some x → cs[j]? = some v → RepA F ρ w x v):RepA F ρ w (.fn f cap) (.func (.func f) #[] cs)
 | esl (a:Option Addr):RepA F ρ w .esl (.slice a 0 0)
 | cell (o off len:Nat) (u:Value) (b:Nat) (hb:F b) (hc:w.cell? ⟨b,0,none⟩ = some u) (h:RepA F ρ w (.own o off len) u):RepA F ρ w (.cell o off len) (.pointer (some ⟨b,0,none⟩))
 | pin (v:Value) (x:AV) (h:RepA F ρ w x v):RepA F ρ w (.pin v x) v
 | dead (v:Value):RepA F ρ w .dead v
theorem RepA.mono {F F':Nat → Prop} {ρ ρ':Locs} {w w':World} (hF:∀ b,F b → F' b) (hw:∀ b,F b → w'.heap[b]? = w.heap[b]?)
  (hρ:∀ o L,ρ o = some L → ρ' o = some L) {x:AV} {v:Value} (h:RepA F ρ w x v):RepA F' ρ' w' x v:=by
 induction h with
 | i x v h=>exact .i x v (h.mono hF hw)
 | agg cells cs hs hr=>exact .agg cells cs hs fun j x v h1 h2=>(hr j x v h1 h2).mono hF hw
 | tup vs cs hs hr ih=>exact .tup vs cs hs ih
 | own o off len c L ho hm hl hN=>exact .own o off len c L (hρ _ _ ho) hm hl hN
 | ownE o off a=>exact .ownE o off a
 | ptr o e j L ho=>exact .ptr o e j L (hρ _ _ ho)
 | fn f cap cs hs hr ih=>exact .fn f cap cs hs ih
 | esl a=>exact .esl a
 | cell o off len u b hb hc h ih=>exact .cell o off len u b (hF _ hb) ((cell_of_heap (a:=⟨b,0,none⟩) (hw b hb)).trans hc) ih
 | pin v x h ih=>exact .pin v x ih
 | dead v=>exact .dead v
inductive Mentions (o:Nat):AV → Prop
 | own (off len:Nat):Mentions o (.own o off len)
 | ptr (e j:Nat):Mentions o (.ptr o e j)
 | cell (off len:Nat):Mentions o (.cell o off len)
 | tup (vs:List AV) (x:AV) (hx:x ∈ vs) (h:Mentions o x):Mentions o (.tup vs)
 | pin (v:Value) (x:AV) (h:Mentions o x):Mentions o (.pin v x)
 | fn (f:FuncId) (cap:List AV) (x:AV) (hx:x ∈ cap) (h:Mentions o x):Mentions o (.fn f cap)
theorem RepA.away {F F':Nat → Prop} {ρ ρ':Locs} {w w':World} (hF:∀ b,F b → F' b) (hw:∀ b,F b → w'.heap[b]? = w.heap[b]?)
  {x:AV} {v:Value} (h:RepA F ρ w x v):(∀ o L,Mentions o x → ρ o = some L → ρ' o = some L) → RepA F' ρ' w' x v:=by
 induction h with
 | i x v h=>exact fun _=>.i x v (h.mono hF hw)
 | agg cells cs hs hr=>exact fun _=>.agg cells cs hs fun j x v h1 h2=>(hr j x v h1 h2).mono hF hw
 | tup vs cs hs hr ih=>exact fun hm=>.tup vs cs hs fun j x v h1 h2=>ih j x v h1 h2 fun o L ho=>hm o L (.tup vs x (List.mem_of_getElem? h1) ho)
 | own o off len c L ho hm hl hN=>exact fun h=>.own o off len c L (h _ _ (.own off len) ho) hm hl hN
 | ownE o off a=>exact fun _=>.ownE o off a
 | ptr o e j L ho=>exact fun h=>.ptr o e j L (h _ _ (.ptr e j) ho)
 | fn f cap cs hs hr ih=>exact fun hm=>.fn f cap cs hs fun j x v h1 h2=>ih j x v h1 h2 fun o L ho=>hm o L (.fn f cap x (List.mem_of_getElem? h1) ho)
 | esl a=>exact fun _=>.esl a
 | cell o off len u b hb hc h ih=>exact fun hm=>.cell o off len u b (hF _ hb) ((cell_of_heap (a:=⟨b,0,none⟩) (hw b hb)).trans hc) (ih fun p L hp ho=>hm p L (by cases hp; exact .cell off len) ho)
 | pin v x h ih=>exact fun hm=>.pin v x (ih fun p L hp ho=>hm p L (.pin v x hp) ho)
 | dead v=>exact fun _=>.dead v
mutual
def mentB (o:Nat):AV → Bool
 | .own p _ _ | .ptr p _ _ | .cell p _ _=>o == p
 | .tup vs=>mentsB o vs
 | .fn _ cap=>mentsB o cap
 | .pin _ x=>mentB o x
 | _=>false
def mentsB (o:Nat):List AV → Bool
 | []=>false
 | x :: l=>mentB o x || mentsB o l
end
theorem mentsB_of_mem {o:Nat} {x:AV} (h:mentB o x = true):∀ l,x ∈ l → mentsB o l = true
 | y :: l,hx=>by
  simp only [mentsB,Bool.or_eq_true]
  rcases List.mem_cons.1 hx with rfl | hx
  ·exact .inl h
  ·exact .inr (mentsB_of_mem h l hx)
theorem mentB_spec (o:Nat) (x:AV) (h:Mentions o x):mentB o x = true:=by
 induction h with
 | own off len=>simp [mentB]
 | ptr e j=>simp [mentB]
 | cell off len=>simp [mentB]
 | tup vs x hx h ih=>exact mentsB_of_mem ih vs hx
 | pin v x h ih=>simpa [mentB] using ih
 | fn f cap x hx h ih=>exact mentsB_of_mem ih cap hx
def look {α:Type}:List (Nat × α) → Nat → Option α
 | [],_=>none
 | (i,v) :: l,t=>if i = t then some v else look l t
theorem look_nil {α:Type} (t:Nat):look ([]:List (Nat × α)) t = none:=rfl
theorem look_cons {α:Type} (i:Nat) (v:α) (l:List (Nat × α)) (t:Nat):look ((i,v) :: l) t = if i = t then some v else look l t:=rfl
structure St where
 T:List (Nat × AV)
 H:List (Nat × Obj)
def purge (o:Nat):List (Nat × AV) → List (Nat × AV)
 | []=>[]
 | (t,v) :: l=>(t,if mentB o v then .dead else v) :: purge o l
theorem look_purge (o:Nat):∀ (l:List (Nat × AV)) (t:Nat) (v:AV),look (purge o l) t = some v → v = .dead ∨ (look l t = some v ∧ ¬ Mentions o v)
 | [],_,_,h=>by simp [purge,look] at h
 | (i,x) :: l,t,v,h=>by
  simp only [purge,look] at h ⊢
  by_cases hi:i = t
  ·rw [if_pos hi] at h ⊢
   by_cases hm:mentB o x = true
   ·rw [if_pos hm] at h; exact .inl (Option.some.inj h).symm
   ·rw [if_neg hm] at h
    obtain rfl:=Option.some.inj h
    exact .inr ⟨rfl,fun h=>hm (mentB_spec o _ h)⟩
  ·rw [if_neg hi] at h ⊢
   exact look_purge o l t v h
structure ObjRep (F:Nat → Prop) (w:World) (obj:Obj) (L:Loc):Prop where
 sz:L.sz = obj.sz
 m:L.m = obj.els.length
 len:∀ el ∈ obj.els,el.length = obj.sz
 fits:L.base + obj.els.length * obj.sz ≤ L.N
 at_:∃ cs ty,w.heap[L.b]? = some (.cells cs ty (0,0)) ∧ cs.size = L.N ∧
  ∀ (e:Nat) (el:List IV) (j:Nat) (x:IV),obj.els[e]? = some el → el[j]? = some x → ∃ v,cs[L.base + e * L.sz + j]? = some v ∧ Rep F w x v
theorem ObjRep.mono {F F':Nat → Prop} {w w':World} {obj:Obj} {L:Loc} (hF:∀ b,F b → F' b) (hw:∀ b,F b → w'.heap[b]? = w.heap[b]?)
  (hb:w'.heap[L.b]? = w.heap[L.b]?) (h:ObjRep F w obj L):ObjRep F' w' obj L:=by
 obtain ⟨h1,h2,h3,h4,cs,ty,h5,h6,h7⟩:=h
 refine ⟨h1,h2,h3,h4,cs,ty,hb.trans h5,h6,fun e el j x he hj=>?_⟩
 obtain ⟨v,hv,hr⟩:=h7 e el j x he hj
 exact ⟨v,hv,hr.mono hF hw⟩
structure Base where
 w:World
 D:Nat → Prop
 at_:Locs
def Base.mine (z:Base) (b:Nat):Prop:=z.w.heap.size ≤ b ∨ z.D b
structure Base.Kept (z:Base) (w:World):Prop where
 os:w.os = z.w.os
 tape:w.tape = z.w.tape
 output:w.output = z.w.output
 size:z.w.heap.size ≤ w.heap.size
 block:∀ k,¬ z.mine k → w.heap[k]? = z.w.heap[k]?
 drawn:z.w.drawn ≤ w.drawn
theorem Base.Kept.refl (z:Base):z.Kept z.w:=⟨rfl,rfl,rfl,Nat.le_refl _,fun _ _=>rfl,Nat.le_refl _⟩
theorem Base.not_mine {z:Base} {k:Nat} (h:¬ z.mine k):k < z.w.heap.size:=by
 unfold Base.mine at h; omega
theorem Base.Kept.below {z:Base} {w w':World} (h:z.Kept w) (k:Below w.heap.size w w'):z.Kept w' :=
 ⟨k.os.trans h.os,k.tape.trans h.tape,k.output.trans h.output,Nat.le_trans h.size k.size,fun i hi=>by
  rw [k.block i (Nat.lt_of_lt_of_le (Base.not_mine hi) h.size)]; exact h.block i hi,Nat.le_trans h.drawn k.drawn⟩
theorem Base.Kept.to_below {w w':World} (k:Base.Kept ⟨w,fun _=>False,fun _=>none⟩ w'):Below w.heap.size w w' :=
 ⟨k.os,k.tape,k.output,k.size,fun i hi=>k.block i (by unfold Base.mine; simp; exact hi),k.drawn⟩
structure HRep (F:Nat → Prop) (ρ:Locs) (N:Nat → Prop) (H:List (Nat × Obj)) (w:World):Prop where
 obj:∀ o ob L,look H o = some ob → ρ o = some L → ObjRep F w ob L ∧ N L.b ∧ ¬ F L.b
 sm:∀ o ob,look H o = some ob → ob.els ≠ [] → (ρ o).isSome = true
 apart:∀ o o' ob ob' L L',look H o = some ob → look H o' = some ob' → ρ o = some L → ρ o' = some L' → L.b = L'.b → o = o'
structure SimAt (w0:Base) (F0:Nat → Prop) (n:Nat) (st:St) (a:Act) (w:World) (F:Nat → Prop) (ρ:Locs):Prop where
 below:w0.Kept w
 defers:a.defers = []
 size:a.tmps.size = n
 sub:∀ b,F0 b → F b
 sup:∀ b,F b → F0 b ∨ w0.mine b
 lt:∀ b,F b → b < w.heap.size
 tmps:∀ t v,look st.T t = some v → RepA F ρ w v (a.tmps.getD t undef)
 heap:HRep F ρ w0.mine st.H w
end Go.Vai
