/- Texts of this claim: Zv17. -/
import Derived.Test.YtiipeibaiphmpaaGreatDoorTv16
set_option linter.unusedVariables false
set_option linter.unusedSimpArgs false
namespace Go.Vai
def Xc (E:Env) (n:Nat) (c:Code) (Q:Exit → St → Prop) (st:St):Prop:=X E n c st Q
def Rc (E:Env) (ops:Array Oper) (os:List Oper) (K:St → Prop) (st:St):Prop:=XR E ops os st K
structure DrawOk (E:Env) (ops:Array Oper):Prop where
 ok:okDraw E.M ops.toList = true:=by decide +kernel
def Oc (E:Env) (o:Oper) (K:St → Prop) (st:St):Prop:=opX E st o K
def Dc (dst:Option Nat) (K:St → Prop) (st:St):Prop:=K (st.eff dst (.tup []) [])
def Gd (g:Bool) (st:St) (A B:St → Prop):Prop:=(g = true → A st) ∧ (g = false → B st)
@[simp] theorem Gd_true (st:St) (A B:St → Prop):Gd true st A B = A st:=by simp [Gd]
@[simp] theorem Gd_false (st:St) (A B:St → Prop):Gd false st A B = B st:=by simp [Gd]
theorem Gd.intro {g:Bool} {st:St} {A B:St → Prop} (h1:g = true → A st) (h2:g = false → B st):Gd g st A B:=⟨h1,h2⟩
theorem Gd.dec {p:Prop} [Decidable p] {st:St} {A B:St → Prop} (h1:p → A st) (h2:¬ p → B st):Gd (decide p) st A B:=⟨fun h=>h1 (of_decide_eq_true h),fun h=>h2 (of_decide_eq_false h)⟩
def GdO (g:Option Bool) (st:St) (A B:St → Prop):Prop:=match g with
 | some g=>Gd g st A B
 | none=>False
@[simp] theorem GdO_some (g:Bool) (st:St) (A B:St → Prop):GdO (some g) st A B = Gd g st A B:=(rfl)
@[simp] theorem GdO_none (st:St) (A B:St → Prop):GdO none st A B = False:=(rfl)
def GdA (g:Option AV) (st:St) (A B:St → Prop):Prop:=match g with
 | some (.i (.bool b))=>Gd b st A B
 | _=>False
@[simp] theorem GdA_some (b:Bool) (st:St) (A B:St → Prop):GdA (some (.i (.bool b))) st A B = Gd b st A B:=(rfl)
def PutK (o:Option AV) (dst:Option Nat) (st:St) (K:St → Prop):Prop:=match o with
 | some v=>K (st.eff dst v [])
 | none=>False
@[simp] theorem PutK_some (v:AV) (dst:Option Nat) (st:St) (K:St → Prop):PutK (some v) dst st K = K (st.eff dst v []):=(rfl)
@[simp] theorem PutK_none (dst:Option Nat) (st:St) (K:St → Prop):PutK none dst st K = False:=(rfl)
def NewK (o:Option (AV × Obj)) (d:Nat) (st:St) (K:St → Prop):Prop:=match o with
 | some (v,ob)=>freshB st.H [(d,ob)] = true ∧ K (st.eff (some d) v [(d,ob)])
 | none=>False
@[simp] theorem NewK_some (v:AV) (ob:Obj) (d:Nat) (st:St) (K:St → Prop):NewK (some (v,ob)) d st K = (freshB st.H [(d,ob)] = true ∧ K (st.eff (some d) v [(d,ob)])):=(rfl)
def BoxK (o:Option (AV × Obj)) (c:Option AV) (d:Nat) (st:St) (K:St → Prop):Prop:=match o with
 | some p=>NewK (some p) d st K
 | none=>PutK c (some d) st K
@[simp] theorem BoxK_some (p:AV × Obj) (c:Option AV) (d:Nat) (st:St) (K:St → Prop):BoxK (some p) c d st K = NewK (some p) d st K:=(rfl)
@[simp] theorem BoxK_none (c:Option AV) (d:Nat) (st:St) (K:St → Prop):BoxK none c d st K = PutK c (some d) st K:=(rfl)
def StK (o:Option St) (K:St → Prop):Prop:=match o with
 | some st=>K st
 | none=>False
@[simp] theorem StK_some (st:St) (K:St → Prop):StK (some st) K = K st:=(rfl)
def AppK (o:Option (AV × St)) (d:Nat) (K:St → Prop):Prop:=match o with
 | some (v,st)=>K ⟨(d,v) :: st.T,st.H⟩
 | none=>False
@[simp] theorem AppK_some (v:AV) (T:List (Nat × AV)) (H:List (Nat × Obj)) (d:Nat) (K:St → Prop):AppK (some (v,⟨T,H⟩)) d K = K ⟨(d,v) :: T,H⟩:=(rfl)
def storeO (E:Env) (st:St) (t:TypeId) (x y:Option AV):Option St:=match x,y with
 | some a,some b=>storeA E st t a b
 | _,_=>none
@[simp] theorem storeO_some (E:Env) (st:St) (t:TypeId) (a b:AV):storeO E st t (some a) (some b) = storeA E st t a b:=(rfl)
def appendO (E:Env) (st:St) (d:Nat) (t:TypeId) (x y:Option AV):Option (AV × St):=match x,y with
 | some a,some b=>appendA E st d t a b
 | _,_=>none
@[simp] theorem appendO_some (E:Env) (st:St) (d:Nat) (t:TypeId) (a b:AV):appendO E st d t (some a) (some b) = appendA E st d t a b:=(rfl)
def CallK (E:Env) (st:St) (d:Nat) (g:FuncId) (vs:List AV) (ys:List AV) (K:St → Prop):Prop :=
 ∃ rs,PC E g ys rs ∧ ((vs.all noOwn = true) ∨ ∀ r ∈ rs,flatR r) ∧ freshB st.H (resA d rs).2 = true ∧ K (st.eff (some d) (resA d rs).1 (resA d rs).2)
def CallO (E:Env) (st:St) (d:Nat) (p:Option (FuncId × List AV)) (K:St → Prop):Prop:=match p with
 | some (g,vs)=>match immL st.H vs with
  | some ys=>CallK E st d g vs ys K
  | none=>False
 | none=>False
def CallI (E:Env) (st:St) (d:Nat) (g:FuncId) (vs:List AV) (ys:Option (List AV)) (K:St → Prop):Prop:=match ys with
 | some ys=>CallK E st d g vs ys K
 | none=>False
@[simp] theorem CallO_some (E:Env) (st:St) (d:Nat) (g:FuncId) (vs:List AV) (K:St → Prop):CallO E st d (some (g,vs)) K = CallI E st d g vs (immL st.H vs) K:=by
 simp only [CallO,CallI]
def CallN (E:Env) (st:St) (d:Nat) (p:Option (FuncId × List AV)) (K:St → Prop):Prop:=match p with
 | some (g,vs)=>CallI E st d g vs (immK st.H vs) K
 | none=>False
@[simp] theorem CallN_some (E:Env) (st:St) (d:Nat) (g:FuncId) (vs:List AV) (K:St → Prop):CallN E st d (some (g,vs)) K = CallI E st d g vs (immK st.H vs) K:=(rfl)
@[simp] theorem CallI_some (E:Env) (st:St) (d:Nat) (g:FuncId) (vs ys:List AV) (K:St → Prop):CallI E st d g vs (some ys) K = CallK E st d g vs ys K:=(rfl)
def MutK (E:Env) (st:St) (dst:Option Nat) (g:FuncId) (vs:List AV) (K:St → Prop):Prop :=
 ∃ args outs rs d part,PM E g args outs rs part ∧ fitM st.H (without (idsM (midM 0 vs args)) st.H) vs args ∧ nodupB (idsM (midM 0 vs args)) = true ∧ fullM (maO 0 args outs) (midM 0 vs args) = true ∧
   (noOwnM vs args = true ∨ (∀ r ∈ rs,flatR r) ∧ ∀ ob ∈ outs,flatO ob) ∧ freshB st.H (resA d rs).2 = true ∧ K ⟨putT dst (valP part (midM 0 vs args) (resA d rs).1) st.T,(resA d rs).2 ++ putL (maO 0 args outs) (midM 0 vs args) st.H⟩
theorem MutK.of {E:Env} {st:St} {d:Nat} {g:FuncId} {vs:List AV} {K:St → Prop} {args:List MA} {outs:List Obj} {rs:List RV} (h:PM E g args outs rs)
  (hf:fitM st.H (without (idsM (midM 0 vs args)) st.H) vs args) (hn:nodupB (idsM (midM 0 vs args)) = true) (hfu:fullM (maO 0 args outs) (midM 0 vs args) = true)
  (hl:noOwnM vs args = true ∨ (∀ r ∈ rs,flatR r) ∧ ∀ ob ∈ outs,flatO ob) (hfr:freshB st.H (resA d rs).2 = true)
  (hK:K ⟨putT (some d) (resA d rs).1 st.T,(resA d rs).2 ++ putL (maO 0 args outs) (midM 0 vs args) st.H⟩):MutK E st (some d) g vs K:=⟨args,outs,rs,d,none,h,hf,hn,hfu,hl,hfr,hK⟩
theorem PartK.of {E:Env} {st:St} {d:Nat} {g:FuncId} {vs:List AV} {K:St → Prop} {args:List MA} {outs:List Obj} {p:Nat × Nat × Nat} (h:PM E g args outs [] (some p))
  (hf:fitM st.H (without (idsM (midM 0 vs args)) st.H) vs args) (hn:nodupB (idsM (midM 0 vs args)) = true) (hfu:fullM (maO 0 args outs) (midM 0 vs args) = true)
  (hl:noOwnM vs args = true ∨ ∀ ob ∈ outs,flatO ob)
  (hK:K ⟨putT (some d) (valP (some p) (midM 0 vs args) .dead) st.T,putL (maO 0 args outs) (midM 0 vs args) st.H⟩):MutK E st (some d) g vs K :=
 ⟨args,outs,[],d,some p,h,hf,hn,hfu,hl.imp_right fun h=>⟨fun r hr=>by simp at hr,h⟩,rfl,hK⟩
def MutO (E:Env) (st:St) (dst:Option Nat) (p:Option (FuncId × List AV)) (K:St → Prop):Prop:=match p with
 | some (g,vs)=>MutK E st dst g vs K
 | none=>False
@[simp] theorem MutO_some (E:Env) (st:St) (dst:Option Nat) (g:FuncId) (vs:List AV) (K:St → Prop):MutO E st dst (some (g,vs)) K = MutK E st dst g vs K:=(rfl)
section
variable (E:Env) (n:Nat) (st:St) (Q:Exit → St → Prop) (K:St → Prop)
@[simp] theorem Xc_skip:Xc E n .skip Q st = Q .normal st:=(rfl)
@[simp] theorem Xc_region (id:Nat) (ops:Array Oper):Xc E n (.region id ops false) Q st = Rc E ops ops.toList (Q .normal) st:=(rfl)
@[simp] theorem Xc_drawn (id:Nat) (ops:Array Oper) (h:DrawOk E ops):Xc E n (.region id ops true) Q st = Rc E ops ops.toList (Q .normal) st:=by
 show RX E ops true st (Q .normal) = _
 simp only [RX,if_pos h.ok]; rfl
theorem Xc_late {id:Nat} {ops:Array Oper} (m:Nat) (J S:List Nat) (h0:okDraw E.M ops.toList = false) (h1:okLate E.M ops.toList m J = true)
  (h:Rc E ops (ops.toList.take m) (fun st'=>LateC E S ops st' J ∧ XRS E S (ops.toList.drop m) st' (Q .normal)) st):Xc E n (.region id ops true) Q st:=by
 show RX E ops true st (Q .normal)
 simp only [RX,if_neg (show ¬ okDraw E.M ops.toList = true by rw [h0]; simp)]
 exact ⟨m,J,S,h1,h⟩
@[simp] theorem Xc_seq (a b:Code):Xc E n (.seq a b) Q st = Xc E n a (thenX (Xc E n b Q) Q) st:=(rfl)
@[simp] theorem Xc_cond (c:Operand) (t e:Code):Xc E n (.cond c t e) Q st = GdA (evA E st.T c) st (Xc E n t Q) (Xc E n e Q):=by
 simp only [Xc,X,GdA]
 cases evA E st.T c with
 | none=>rfl
 | some v=>cases v <;> first | rfl | (rename_i x; cases x <;> rfl)
@[simp] theorem Xc_block (id:Nat) (c:Code):Xc E n (.block id c) Q st = Xc E n c (blockX id Q) st:=(rfl)
@[simp] theorem Xc_loop (c:Code):Xc E n (.loop c) Q st = XL E n c st Q:=(rfl)
@[simp] theorem Xc_exit (id:Nat):Xc E n (.exit id) Q st = Q (.exit id) st:=(rfl)
@[simp] theorem Xc_ret:Xc E n .ret Q st = Q .ret st:=(rfl)
@[simp] theorem Rc_nil (ops:Array Oper):Rc E ops [] K st = K st:=(rfl)
@[simp] theorem Rc_cons (ops:Array Oper) (dst:Option Tmp) (op:Op) (ty:TypeId) (pos:String) (af:Array Edge) (os:List Oper) :
  Rc E ops (⟨dst,op,ty,pos,af,none⟩ :: os) K st = Oc E ⟨dst,op,ty,pos,af,none⟩ (Rc E ops os K) st:=by
 unfold Rc Oc
 simp only [XR,guardA]
 exact propext ⟨fun h=>h.1 trivial,fun h=>⟨fun _=>h,fun h'=>by simp at h'⟩⟩
end
section
variable (b:St → Prop) (Q:Exit → St → Prop) (s:St)
@[simp] theorem thenX_normal:thenX b Q .normal s = b s:=(rfl)
@[simp] theorem thenX_exit (i:Nat):thenX b Q (.exit i) s = Q (.exit i) s:=(rfl)
@[simp] theorem thenX_ret:thenX b Q .ret s = Q .ret s:=(rfl)
@[simp] theorem blockX_normal (id:Nat):blockX id Q .normal s = Q .normal s:=(rfl)
@[simp] theorem blockX_exit (id i:Nat):blockX id Q (.exit i) s = if i = id then Q .normal s else Q (.exit i) s:=(rfl)
@[simp] theorem blockX_ret (id:Nat):blockX id Q .ret s = Q .ret s:=(rfl)
end
def gdA (T:List (Nat × AV)) (d:Option Tmp) (want:Bool):Option Bool:=match d with
 | some d=>match look T d with
  | some (.i (.bool b))=>some (b == want)
  | some (.tup _)=>some false
  | _=>none
 | none=>none
def dstAt:List Oper → Nat → Option Tmp
 | [],_=>none
 | o :: _,0=>o.dst
 | _ :: os,k + 1=>dstAt os k
theorem dstAt_eq:∀ (os:List Oper) (j:Nat),(os[j]?).bind (·.dst) = dstAt os j
 | [],j=>by simp [dstAt]
 | o :: os,0=>by simp [dstAt]
 | o :: os,j + 1=>by simpa [dstAt] using dstAt_eq os j
theorem guardA_some (ops:Array Oper) (T:List (Nat × AV)) (dst:Option Tmp) (op:Op) (ty:TypeId) (pos:String) (af:Array Edge) (j:Nat) (want:Bool) :
  guardA ops T ⟨dst,op,ty,pos,af,some (j,want)⟩ = gdA T (dstAt ops.toList j) want:=by
 have:=dstAt_eq ops.toList j
 simp only [Array.getElem?_toList] at this
 unfold guardA gdA
 simp only
 rw [this]
 cases dstAt ops.toList j <;> rfl
@[simp] theorem Rc_gcons (E:Env) (st:St) (K:St → Prop) (ops:Array Oper) (dst:Option Tmp) (op:Op) (ty:TypeId) (pos:String) (af:Array Edge) (j:Nat) (want:Bool) (os:List Oper) :
  Rc E ops (⟨dst,op,ty,pos,af,some (j,want)⟩ :: os) K st = GdO (gdA st.T (dstAt ops.toList j) want) st (Oc E ⟨dst,op,ty,pos,af,some (j,want)⟩ (Rc E ops os K)) (Dc dst (Rc E ops os K)):=by
 simp only [Rc,XR,guardA_some,GdO,Gd,Oc,Dc]
 cases gdA st.T (dstAt ops.toList j) want <;> rfl
@[simp] theorem Dc_app (dst:Option Nat) (K:St → Prop) (st:St):Dc dst K st = K (st.eff dst (.tup []) []):=(rfl)
@[simp] theorem St_eff_some (T:List (Nat × AV)) (H:List (Nat × Obj)) (d:Nat) (v:AV) (frs:List (Nat × Obj)):St.eff ⟨T,H⟩ (some d) v frs = ⟨(d,v) :: T,frs ++ H⟩:=(rfl)
@[simp] theorem St_eff_none (T:List (Nat × AV)) (H:List (Nat × Obj)) (v:AV) (frs:List (Nat × Obj)):St.eff ⟨T,H⟩ none v frs = ⟨T,frs ++ H⟩:=(rfl)
section
variable (E:Env) (st:St) (K:St → Prop) (dst:Option Tmp) (ty:TypeId) (pos:String) (af:Array Edge) (gd:Option (Nat × Bool))
theorem Oc_pure {op:Op} (h1:isStore op = none) (h2:isApp op = none) (h3:calleeA E st.T op = none) (h4:∀ d,qfresh E st.T d op = none) (h5:isCallM E.M op = false:=by rfl) (h6:cellA E st.T op = none:=by rfl) :
  Oc E ⟨dst,op,ty,pos,af,gd⟩ K st = PutK (qpure E st.T st.H op) dst st K:=by
 simp only [Oc,opX,h1,h2,h5,quietX,h3,PutK]
 cases qpure E st.T st.H op with
 | some v=>rfl
 | none=>cases dst with
  | none=>rfl
  | some d=>simp [h4,h6]
@[simp] theorem Oc_move (x:Operand):Oc E ⟨dst,.move x,ty,pos,af,gd⟩ K st = PutK (qpure E st.T st.H (.move x)) dst st K:=Oc_pure E st K dst ty pos af gd rfl rfl rfl fun _=>rfl
@[simp] theorem Oc_assign (x:Operand):Oc E ⟨dst,.assign x,ty,pos,af,gd⟩ K st = PutK (qpure E st.T st.H (.assign x)) dst st K:=Oc_pure E st K dst ty pos af gd rfl rfl rfl fun _=>rfl
@[simp] theorem Oc_pick (c a b:Operand):Oc E ⟨dst,.pick c a b,ty,pos,af,gd⟩ K st = PutK (qpure E st.T st.H (.pick c a b)) dst st K:=Oc_pure E st K dst ty pos af gd rfl rfl rfl fun _=>rfl
@[simp] theorem Oc_nilCheck (x:Operand):Oc E ⟨dst,.nilCheck x,ty,pos,af,gd⟩ K st = PutK (qpure E st.T st.H (.nilCheck x)) dst st K:=Oc_pure E st K dst ty pos af gd rfl rfl rfl fun _=>rfl
@[simp] theorem Oc_binOp (op:BinOp) (t u:TypeId) (x y:Operand):Oc E ⟨dst,.binOp op t x y u,ty,pos,af,gd⟩ K st = PutK (qpure E st.T st.H (.binOp op t x y u)) dst st K:=Oc_pure E st K dst ty pos af gd rfl rfl rfl fun _=>rfl
@[simp] theorem Oc_unOp (op:UnOp) (t:TypeId) (x:Operand):Oc E ⟨dst,.unOp op t x,ty,pos,af,gd⟩ K st = PutK (qpure E st.T st.H (.unOp op t x)) dst st K:=Oc_pure E st K dst ty pos af gd rfl rfl rfl fun _=>rfl
@[simp] theorem Oc_convert (s d:TypeId) (x:Operand):Oc E ⟨dst,.convert s d x,ty,pos,af,gd⟩ K st = PutK (qpure E st.T st.H (.convert s d x)) dst st K:=Oc_pure E st K dst ty pos af gd rfl rfl rfl fun _=>rfl
@[simp] theorem Oc_makeFunc (f:Fn) (a b:Array Operand):Oc E ⟨dst,.makeFunc f a b,ty,pos,af,gd⟩ K st = PutK (qpure E st.T st.H (.makeFunc f a b)) dst st K:=Oc_pure E st K dst ty pos af gd rfl rfl rfl fun _=>rfl
@[simp] theorem Oc_fieldAddr (s:TypeId) (x:Operand) (f:Nat):Oc E ⟨dst,.fieldAddr s x f,ty,pos,af,gd⟩ K st = PutK (qpure E st.T st.H (.fieldAddr s x f)) dst st K:=Oc_pure E st K dst ty pos af gd rfl rfl rfl fun _=>rfl
@[simp] theorem Oc_indexAddr (s:TypeId) (x y:Operand):Oc E ⟨dst,.indexAddr s x y,ty,pos,af,gd⟩ K st = PutK (qpure E st.T st.H (.indexAddr s x y)) dst st K:=Oc_pure E st K dst ty pos af gd rfl rfl rfl fun _=>rfl
@[simp] theorem Oc_field (s:TypeId) (x:Operand) (f:Nat):Oc E ⟨dst,.field s x f,ty,pos,af,gd⟩ K st = PutK (qpure E st.T st.H (.field s x f)) dst st K:=Oc_pure E st K dst ty pos af gd rfl rfl rfl fun _=>rfl
@[simp] theorem Oc_index (s:TypeId) (x y:Operand):Oc E ⟨dst,.index s x y,ty,pos,af,gd⟩ K st = PutK (qpure E st.T st.H (.index s x y)) dst st K:=Oc_pure E st K dst ty pos af gd rfl rfl rfl fun _=>rfl
@[simp] theorem Oc_extract (x:Operand) (f:Nat):Oc E ⟨dst,.extract x f,ty,pos,af,gd⟩ K st = PutK (qpure E st.T st.H (.extract x f)) dst st K:=Oc_pure E st K dst ty pos af gd rfl rfl rfl fun _=>rfl
@[simp] theorem Oc_slice (t:TypeId) (x:Operand) (a b c:Option Operand):Oc E ⟨dst,.slice t x a b c,ty,pos,af,gd⟩ K st = PutK (qpure E st.T st.H (.slice t x a b c)) dst st K:=Oc_pure E st K dst ty pos af gd rfl rfl rfl fun _=>rfl
@[simp] theorem Oc_load (t:TypeId) (x:Operand):Oc E ⟨dst,.load t x,ty,pos,af,gd⟩ K st = PutK (qpure E st.T st.H (.load t x)) dst st K:=Oc_pure E st K dst ty pos af gd rfl rfl rfl fun _=>rfl
@[simp] theorem Oc_lookup (t:TypeId) (m k:Operand):Oc E ⟨dst,.lookup t m k false,ty,pos,af,gd⟩ K st = PutK (qpure E st.T st.H (.lookup t m k false)) dst st K:=Oc_pure E st K dst ty pos af gd rfl rfl rfl fun _=>rfl
@[simp] theorem Oc_build (t:TypeId) (ps:Array (Nat × Operand)):Oc E ⟨dst,.build t ps,ty,pos,af,gd⟩ K st = PutK (qpure E st.T st.H (.build t ps)) dst st K:=Oc_pure E st K dst ty pos af gd rfl rfl rfl fun _=>rfl
@[simp] theorem Oc_len (xs:Array Operand) (ts:Array TypeId):Oc E ⟨dst,.call ⟨.builtin .len,xs,ts⟩,ty,pos,af,gd⟩ K st = PutK (callA E st.T .len ts.toList xs.toList) dst st K:=Oc_pure E st K dst ty pos af gd rfl rfl rfl fun _=>rfl
@[simp] theorem Oc_max (xs:Array Operand) (ts:Array TypeId):Oc E ⟨dst,.call ⟨.builtin .max,xs,ts⟩,ty,pos,af,gd⟩ K st = PutK (callA E st.T .max ts.toList xs.toList) dst st K:=Oc_pure E st K dst ty pos af gd rfl rfl rfl fun _=>rfl
@[simp] theorem Oc_min (xs:Array Operand) (ts:Array TypeId):Oc E ⟨dst,.call ⟨.builtin .min,xs,ts⟩,ty,pos,af,gd⟩ K st = PutK (callA E st.T .min ts.toList xs.toList) dst st K:=Oc_pure E st K dst ty pos af gd rfl rfl rfl fun _=>rfl
theorem Oc_fresh {op:Op} (d:Nat) (h1:isStore op = none) (h2:isApp op = none) (h3:calleeA E st.T op = none) (h4:qpure E st.T st.H op = none) (h5:isCallM E.M op = false:=by rfl) (h6:cellA E st.T op = none:=by rfl) :
  Oc E ⟨some d,op,ty,pos,af,gd⟩ K st = NewK (qfresh E st.T d op) d st K:=by
 simp only [Oc,opX,h1,h2,h5,quietX,h3,h4,h6,NewK]
 cases qfresh E st.T d op with
 | some v=>rfl
 | none=>rfl
@[simp] theorem Oc_alloc (d:Nat) (t:TypeId):Oc E ⟨some d,.alloc t,ty,pos,af,gd⟩ K st = NewK (qfresh E st.T d (.alloc t)) d st K:=Oc_fresh E st K ty pos af gd d rfl rfl rfl rfl
@[simp] theorem Oc_box (d:Nat) (t:TypeId) (x:Operand):Oc E ⟨some d,.box t x,ty,pos,af,gd⟩ K st = BoxK (qfresh E st.T d (.box t x)) (cellA E st.T (.box t x)) d st K:=by
 simp only [Oc,opX,isStore,isApp,isCallM,quietX,calleeA,qpure,BoxK,NewK,PutK]
 cases qfresh E st.T d (.box t x) with
 | some v=>rfl
 | none=>cases cellA E st.T (.box t x) <;> rfl
@[simp] theorem Oc_makeSlice (d:Nat) (t:TypeId) (x y:Operand):Oc E ⟨some d,.makeSlice t x y,ty,pos,af,gd⟩ K st = NewK (qfresh E st.T d (.makeSlice t x y)) d st K:=Oc_fresh E st K ty pos af gd d rfl rfl rfl rfl
@[simp] theorem Oc_buildSlice (d:Nat) (t:TypeId) (l:Nat) (ps:Array (Nat × Operand)):Oc E ⟨some d,.buildSlice t l ps,ty,pos,af,gd⟩ K st = NewK (qfresh E st.T d (.buildSlice t l ps)) d st K:=Oc_fresh E st K ty pos af gd d rfl rfl rfl rfl
@[simp] theorem Oc_store (t:TypeId) (x y:Operand):Oc E ⟨none,.store t x y,ty,pos,af,gd⟩ K st = StK (storeO E st t (evA E st.T x) (evA E st.T y)) K:=by
 simp only [Oc,opX,isStore,StK,storeO]
 cases evA E st.T x <;> cases evA E st.T y <;> simp
 rename_i a b
 cases storeA E st t a b <;> rfl
@[simp] theorem Oc_append (d:Nat) (t:TypeId) (s x:Operand):Oc E ⟨some d,.call ⟨.builtin .append,#[s,x],#[t,t]⟩,ty,pos,af,gd⟩ K st = AppK (appendO E st d t (evA E st.T s) (evA E st.T x)) d K:=by
 simp only [Oc,opX,isStore,isApp,AppK,if_true,appendO]
 cases evA E st.T s <;> cases evA E st.T x <;> simp
 rename_i a b
 cases appendA E st d t a b <;> rfl
@[simp] theorem Oc_zeros (d:Nat) (t u:TypeId) (s x:Operand) (h:(t = u) = False):Oc E ⟨some d,.call ⟨.builtin .append,#[s,x],#[t,u]⟩,ty,pos,af,gd⟩ K st = NewK (zerosA E st.T d [t,u] [s,x]) d st K :=
 Oc_fresh E st K ty pos af gd d rfl (by simp [isApp,h]) rfl rfl
def clearO (E:Env) (st:St) (t:TypeId) (x:Option AV):Option St:=match x with
 | some a=>clearA E st t a
 | none=>none
@[simp] theorem clearO_some (E:Env) (st:St) (t:TypeId) (a:AV):clearO E st t (some a) = clearA E st t a:=(rfl)
@[simp] theorem Oc_clear (t:TypeId) (x:Operand):Oc E ⟨none,.call ⟨.builtin .clear,#[x],#[t]⟩,ty,pos,af,gd⟩ K st = StK (clearO E st t (evA E st.T x)) K:=by
 simp only [Oc,opX,isStore,isApp,isCallM,mutX,calleeA,isClr,StK,clearO]
 cases evA E st.T x with
 | none=>simp
 | some a=>cases h:clearA E st t a <;> simp [h]
@[simp] theorem Oc_cap (xs:Array Operand) (ts:Array TypeId):Oc E ⟨dst,.call ⟨.builtin .cap,xs,ts⟩,ty,pos,af,gd⟩ K st = PutK (callA E st.T .cap ts.toList xs.toList) dst st K:=Oc_pure E st K dst ty pos af gd rfl rfl rfl fun _=>rfl
theorem Oc_callQ (d:Nat) (f:Operand) (xs:Array Operand) (ts:Array TypeId) (h:isCallM E.M (.call ⟨.value f,xs,ts⟩) = false) (hk:keepB E.N (.call ⟨.value f,xs,ts⟩) = false):Oc E ⟨some d,.call ⟨.value f,xs,ts⟩,ty,pos,af,gd⟩ K st =
  CallO E st d (calleeA E st.T (.call ⟨.value f,xs,ts⟩)) K:=by
 simp only [Oc,opX,isStore,isApp,quietX,CallO,h,hk,imm2]
 cases calleeA E st.T (.call ⟨.value f,xs,ts⟩) with
 | none=>simp [qpure,qfresh,cellA]
 | some p =>
  obtain ⟨g,vs⟩:=p
  simp only [Bool.false_eq_true,if_false]
  cases hi:immL st.H vs with
  | none=>simp
  | some ys =>
   simp only [CallK,Option.some.injEq,eq_iff_iff]; constructor
   ·rintro ⟨_,rs,d',rfl,rfl,h⟩; exact ⟨rs,h⟩
   ·rintro ⟨rs,h⟩; exact ⟨ys,rs,d,rfl,rfl,h⟩
theorem Oc_callN (d:Nat) (f:Operand) (xs:Array Operand) (ts:Array TypeId) (h:isCallM E.M (.call ⟨.value f,xs,ts⟩) = false) (hk:keepB E.N (.call ⟨.value f,xs,ts⟩) = true):Oc E ⟨some d,.call ⟨.value f,xs,ts⟩,ty,pos,af,gd⟩ K st =
  CallN E st d (calleeA E st.T (.call ⟨.value f,xs,ts⟩)) K:=by
 simp only [Oc,opX,isStore,isApp,quietX,CallN,h,hk,imm2]
 cases calleeA E st.T (.call ⟨.value f,xs,ts⟩) with
 | none=>simp [qpure,qfresh,cellA]
 | some p =>
  obtain ⟨g,vs⟩:=p
  simp only [if_true,CallI]
  cases hi:immK st.H vs with
  | none=>simp
  | some ys =>
   simp only [CallK,Option.some.injEq,eq_iff_iff]; constructor
   ·rintro ⟨_,rs,d',rfl,rfl,h⟩; exact ⟨rs,h⟩
   ·rintro ⟨rs,h⟩; exact ⟨ys,rs,d,rfl,rfl,h⟩
@[simp] theorem Oc_callt (d:Nat) (t:Tmp) (xs:Array Operand) (ts:Array TypeId):Oc E ⟨some d,.call ⟨.value (.tmp t),xs,ts⟩,ty,pos,af,gd⟩ K st =
  CallO E st d (calleeA E st.T (.call ⟨.value (.tmp t),xs,ts⟩)) K:=Oc_callQ E st K ty pos af gd d _ xs ts rfl rfl
@[simp] theorem Oc_callf (d:Nat) (g:FuncId) (xs:Array Operand) (ts:Array TypeId):Oc E ⟨some d,.call ⟨.value (.func g),xs,ts⟩,ty,pos,af,gd⟩ K st =
  if E.M.contains g = true then MutO E st (some d) (calleeA E st.T (.call ⟨.value (.func g),xs,ts⟩)) K else
  if E.N.contains g = true then CallN E st d (calleeA E st.T (.call ⟨.value (.func g),xs,ts⟩)) K else CallO E st d (calleeA E st.T (.call ⟨.value (.func g),xs,ts⟩)) K:=by
 by_cases hg:E.M.contains g = true
 ·rw [if_pos hg]
  simp only [Oc,opX,isStore,isApp,isCallM,hg,mutX,MutO]
  cases calleeA E st.T (.call ⟨.value (.func g),xs,ts⟩) with
  | none=>rfl
  | some p=>rfl
 ·rw [if_neg hg]
  by_cases hn:E.N.contains g = true
  ·rw [if_pos hn]
   exact Oc_callN E st K ty pos af gd d _ xs ts (by simpa [isCallM] using hg) (by simpa [keepB] using hn)
  ·rw [if_neg hn]
   exact Oc_callQ E st K ty pos af gd d _ xs ts (by simpa [isCallM] using hg) (by simpa [keepB] using hn)
end
def XRSt (E:Env) (S:List Nat) (t:TypeId) (va vv:Option AV) (os:List Oper) (st:St) (K:St → Prop):Prop:=match va,vv with
 | some (.ptr id e j),some v=>S.contains id = true ∧ StK (storeA E st t (.ptr id e j) v) fun st'=>XRS E S os st' K
 | _,_=>False
def LateV (v u:Option AV):Prop:=match v with
 | some v=>u = some v
 | none=>False
def LateO (E:Env) (S:List Nat) (st:St):Option Oper → Prop
 | some ⟨some d,op,_,_,_,_⟩=>LateV (qpure E st.T (bare S st.H) op) (look st.T d)
 | _=>False
section
variable (E:Env) (S:List Nat) (st:St) (K:St → Prop) (dst:Option Tmp) (ty:TypeId) (pos:String) (af:Array Edge) (gd:Option (Nat × Bool)) (os:List Oper)
@[simp] theorem XRS_nil:XRS E S [] st K = K st:=(rfl)
@[simp] theorem XRSt_some (t:TypeId) (id e j:Nat) (v:AV):XRSt E S t (some (.ptr id e j)) (some v) os st K = (S.contains id = true ∧ StK (storeA E st t (.ptr id e j) v) fun st'=>XRS E S os st' K):=(rfl)
@[simp] theorem XRS_store (t:TypeId) (x y:Operand):XRS E S (⟨dst,.store t x y,ty,pos,af,gd⟩ :: os) st K = XRSt E S t (evA E st.T x) (evA E st.T y) os st K:=by
 simp only [XRS,isStore]
 cases evA E st.T x with
 | none=>rfl
 | some va=>cases evA E st.T y with
  | none=>cases va <;> rfl
  | some vv =>
   cases va <;> simp only [XRSt,false_and]
   rename_i id e j
   cases storeA E st t (.ptr id e j) vv <;> rfl
@[simp] theorem XRS_assign (x:Operand):XRS E S (⟨dst,.assign x,ty,pos,af,gd⟩ :: os) st K = PutK (evM E st.T x) dst st fun st'=>XRS E S os st' K:=by
 simp only [XRS,isStore,qpure,PutK]
 cases evM E st.T x <;> rfl
@[simp] theorem XRS_move (x:Operand):XRS E S (⟨dst,.move x,ty,pos,af,gd⟩ :: os) st K = PutK (evM E st.T x) dst st fun st'=>XRS E S os st' K:=by
 simp only [XRS,isStore,qpure,PutK]
 cases evM E st.T x <;> rfl
@[simp] theorem XRS_indexAddr (s:TypeId) (x y:Operand):XRS E S (⟨dst,.indexAddr s x y,ty,pos,af,gd⟩ :: os) st K = PutK (qpure E st.T st.H (.indexAddr s x y)) dst st fun st'=>XRS E S os st' K:=by
 simp only [XRS,isStore,PutK]
 cases qpure E st.T st.H (.indexAddr s x y) <;> rfl
@[simp] theorem LateC_nil (ops:Array Oper):LateC E S ops st [] = True:=(rfl)
@[simp] theorem LateC_cons (ops:Array Oper) (j:Nat) (J:List Nat):LateC E S ops st (j :: J) = (LateO E S st (ops[j]?) ∧ LateC E S ops st J):=by
 simp only [LateC]
 congr 1
 cases ops[j]? with
 | none=>rfl
 | some o =>
  obtain ⟨d,op,t,p,a,g⟩:=o
  cases d with
  | none=>rfl
  | some d =>
   simp only [LateO,LateV]
   cases qpure E st.T (bare S st.H) op <;> rfl
@[simp] theorem LateO_some (d:Nat) (op:Op):LateO E S st (some ⟨some d,op,ty,pos,af,gd⟩) = LateV (qpure E st.T (bare S st.H) op) (look st.T d):=(rfl)
@[simp] theorem LateV_some (v:AV) (u:Option AV):LateV (some v) u = (u = some v):=(rfl)
@[simp] theorem bare_nil:bare S [] = []:=rfl
@[simp] theorem bare_cons (i:Nat) (ob:Obj) (H:List (Nat × Obj)):bare S ((i,ob) :: H) = (i,if S.contains i = true then ⟨ob.sz,[]⟩ else ob) :: bare S H:=by
 simp only [bare,List.map_cons]
 split <;> rfl
end
def Nx {ι:Type} (I:ι → St) (μ:ι → Nat) (i:ι) (s:St):Prop:=∃ i',μ i' < μ i ∧ Le s (I i')
theorem XL.by {E:Env} (hE:E.Ok) {n:Nat} {c:Code} {st:St} {Q:Exit → St → Prop} {ι:Type} (I:ι → St) (μ:ι → Nat) (i0:ι) (h0:Le st (I i0)) (hok:codeOk E.M n c = true)
  (step:∀ i,Xc E n c (thenX (Nx I μ i) Q) (I i)):XL E n c st Q:=XL_intro hE I μ i0 h0 hok step
theorem PC_start {E:Env} (hE:E.Ok) {f:FuncId} {fn:Func} {c:Code} {rl:List ResultVar} {n:Nat} {args:List AV} {rs:List RV} (hf:E.P.funcs[f]? = some fn) (hb:fn.body = some c) (hr:fn.results.toList = rl) (hnt:fn.ntmps = n)
  (hg:goesB E.P f = true) (hok:codeOk E.M n c = true) (hn:args.length ≤ n) (h:Xc E n c (retE E rl rs) ⟨numT 0 args,[]⟩):PC E f args rs:=PC_of hE hf hb hr hnt hg hok hn h
theorem PM_start {E:Env} (hE:E.Ok) {f:FuncId} {fn:Func} {c:Code} {rl:List ResultVar} {n:Nat} {args:List MA} {outs:List Obj} {rs:List RV} (hf:E.P.funcs[f]? = some fn) (hb:fn.body = some c) (hr:fn.results.toList = rl) (hnt:fn.ntmps = n)
  (hg:goesB E.P f = true) (hok:codeOk E.M n c = true) (hn:args.length ≤ n) (hall:allM (maO 0 args outs) (maH 0 args)) (h:Xc E n c (retME E rl rs (maO 0 args outs)) ⟨numT 0 (maA 0 args),maH 0 args⟩):PM E f args outs rs:=PM_of hE hf hb hr hnt hg hok hn hall h
theorem PP_start {E:Env} (hE:E.Ok) {f:FuncId} {fn:Func} {c:Code} {rl:List ResultVar} {n:Nat} {args:List MA} {outs:List Obj} {j off len:Nat} (hf:E.P.funcs[f]? = some fn) (hb:fn.body = some c) (hr:fn.results.toList = rl) (hnt:fn.ntmps = n)
  (hg:goesB E.P f = true) (hok:codeOk E.M n c = true) (hn:args.length ≤ n) (hall:allM (maO 0 args outs) (maH 0 args)) (h:Xc E n c (retPE E rl j off len (maO 0 args outs)) ⟨numT 0 (maA 0 args),maH 0 args⟩):PM E f args outs [] (some (j,off,len)):=PP_of hE hf hb hr hnt hg hok hn hall h
@[simp] theorem retPE_ret (E:Env) (rl:List ResultVar) (j off len:Nat) (O:List (Nat × Obj)) (st:St):retPE E rl j off len O .ret st = RetPt E rl j off len O st:=(rfl)
@[simp] theorem retPE_normal (E:Env) (rl:List ResultVar) (j off len:Nat) (O:List (Nat × Obj)) (st:St):retPE E rl j off len O .normal st = RetPt E rl j off len O st:=(rfl)
@[simp] theorem retME_ret (E:Env) (rl:List ResultVar) (rs:List RV) (O:List (Nat × Obj)) (st:St):retME E rl rs O .ret st = RetM E rl rs O st:=(rfl)
@[simp] theorem retME_normal (E:Env) (rl:List ResultVar) (rs:List RV) (O:List (Nat × Obj)) (st:St):retME E rl rs O .normal st = RetM E rl rs O st:=(rfl)
@[simp] theorem retE_ret (E:Env) (rl:List ResultVar) (rs:List RV) (st:St):retE E rl rs .ret st = RetL E rl rs st:=(rfl)
@[simp] theorem retE_normal (E:Env) (rl:List ResultVar) (rs:List RV) (st:St):retE E rl rs .normal st = RetL E rl rs st:=(rfl)
attribute [simp] lookA IV.flat stripA evM evA evL evO constA constI constL look_cons look_nil qpure qfresh callA binI intOp shOp isSh boolOp strOp lenA mmA unA convA loadA fieldAddrA fieldOf indexAddrA cellsAt valOf TK.agg cellsOf cellA fieldA indexA extractA nilA nilOp boundA sliceA storeA splice buildV buildA structPlaces allTy partsA calleeA immL immK keepA zerosA immA immC immCs freshB gdA dstAt appendA srcA setH purge mentB mentsB oneA resL resA noOwn flatR numT RetL resV retV ownR ptR ownIds without nodupB leT leH leV dropped inH insH clT ma1 ma2 maA maH maO midOf midM idsM fit1 fitM noOwnM putL fullM flatO allM outM lowB RetM putT valP clearA RetPt
@[simp] theorem nat_not_neg (k:Nat):(((k:Nat):Int) < 0) = False:=by simp
def fill {α:Type} (l:List α) (z:α) (k:Nat):List α:=l.take k ++ List.replicate (l.length - k) z
theorem fill_zero {α:Type} (l:List α) (z:α):fill l z 0 = List.replicate l.length z:=by simp [fill]
theorem fill_all {α:Type} (l:List α) (z:α) (k:Nat) (h:l.length ≤ k):fill l z k = l:=by simp [fill,List.take_of_length_le h,Nat.sub_eq_zero_of_le h]
theorem fill_get {α:Type} (l:List α) (z:α) (k:Nat) (h:k < l.length):(fill l z k)[k]? = some z:=by
 have:(l.take k).length = k:=by simp; omega
 simp only [fill]
 rw [List.getElem?_append_right (by omega),this,Nat.sub_self,List.getElem?_replicate,if_pos (by omega)]
theorem fill_set {α:Type} (l:List α) (z:α) (k:Nat) (x:α) (h:l[k]? = some x):(fill l z k).set k x = fill l z (k + 1):=by
 have hk:=(List.getElem?_eq_some_iff.1 h).1
 have hx:=(List.getElem?_eq_some_iff.1 h).2
 have h1:(l.take k).length = k:=by simp; omega
 simp only [fill]
 rw [List.set_append_right _ _ (by omega),h1,Nat.sub_self,show l.length - k = (l.length - (k + 1)) + 1 by omega,List.replicate_succ,List.set_cons_zero,List.take_succ_eq_append_getElem hk,hx]
 simp
@[simp] theorem int_beq (a b:Int):(a == b) = decide (a = b):=by by_cases h:a = b <;> simp [h]
@[simp] theorem int_bne (a b:Int):(a != b) = !decide (a = b):=by by_cases h:a = b <;> simp [h]
@[simp] theorem Gd_not (b:Bool) (st:St) (A B:St → Prop):Gd (!b) st A B = Gd b st B A:=by cases b <;> simp
@[simp] theorem len_dec0 {α:Type} [DecidableEq α] (l:List α):((l.length:Int) = 0) = (l = []):=by cases l <;> simp <;> omega
@[simp] theorem ifmax (a b:Nat):(if a < b then (b:Int) else (a:Int)) = ((max a b:Nat):Int):=by split <;> omega
theorem le_most {x:Int} (h:x ≤ 140737488355328):(x ≤ most) = True:=eq_true (by unfold most; exact h)
@[simp] theorem get_map_app {α β:Type} (f:α → β) (t:List α) (x:β) (r:List β):(t.map f ++ x :: r)[t.length]? = some x:=by simp
@[simp] theorem take_map_app {α β:Type} (f:α → β) (t:List α) (r:List β):(t.map f ++ r).take t.length = t.map f:=by simp
@[simp] theorem take_map {α β:Type} (f:α → β) (t:List α):(t.map f).take t.length = t.map f:=by rw [List.take_of_length_le]; simp
@[simp] theorem take_map_app1 {α β:Type} (f:α → β) (t:List α) (x:β) (r:List β):(t.map f ++ x :: r).take (t.length + 1) = t.map f ++ [x]:=by
 rw [show t.length + 1 = (t.map f).length + 1 by simp,List.take_length_add_append]; rfl
theorem zS:(∀ n:Int,-9223372036854775808 ≤ n → n ≤ 9223372036854775807 → IntKind.i64.wrap n = n) ∧ (∀ x:Int,x ≤ 140737488355328 → (x ≤ most) = True) ∧ (∀ a b:Int,a < b → (a < b) = True) ∧ (∀ a b:Int,a ≤ b → (a ≤ b) = True) ∧ (∀ a b:Int,¬ a = b → (a = b) = False) ∧
  (∀ (n:Nat) (els:List (List IV)),allLen n els = els.all fun el=>el.length == n) :=
 ⟨fun _ h0 h=>wrap_i64 h0 h,fun _ h=>le_most h,fun _ _ h=>eq_true h,fun _ _ h=>eq_true h,fun _ _ h=>eq_false h,fun _ _=>rfl⟩
theorem zC {E:Env} {st:St} {d:Nat} {g:FuncId} {vs ys:List AV} {K:St → Prop} {rs:List RV} (h:PC E g ys rs) (hK:K (st.eff (some d) (resA d rs).1 (resA d rs).2))
  (hl:(vs.all noOwn = true) ∨ ∀ r ∈ rs,flatR r:=by first | exact .inl rfl | exact .inr (by simp)) (hf:freshB st.H (resA d rs).2 = true:=by simp):CallK E st d g vs ys K:=⟨rs,h,hl,hf,hK⟩
theorem zP {E:Env} (hE:E.Ok) {f:FuncId} {fn:Func} {c:Code} {rl:List ResultVar} {n:Nat} {args:List AV} {rs:List RV} (hf:E.P.funcs[f]? = some fn) (hnt:fn.ntmps = n) (hb:fn.body = some c) (hr:fn.results.toList = rl)
  (h:Xc E n c (retE E rl rs) ⟨numT 0 args,[]⟩) (hg:goesB E.P f = true:=by kernel_rfl) (hok:codeOk E.M n c = true:=by kernel_rfl) (hn:args.length ≤ n:=by simp):PC E f args rs:=PC_start hE hf hb hr hnt hg hok hn h
end Go.Vai
