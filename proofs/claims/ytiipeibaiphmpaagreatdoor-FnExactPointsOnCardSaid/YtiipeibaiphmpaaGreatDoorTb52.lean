/- Texts of this claim: Zw1, Zw2, Zw3, Zw4. -/
import Derived.Test.YtiipeibaiphmpaaGreatDoorTb32
import Derived.Maps.AppendAt
import Derived.Carry
import Derived.Test.YtiipeibaiphmpaaGreatDoorTvE
set_option linter.unusedVariables false
set_option linter.unusedSimpArgs false
set_option maxHeartbeats 4000000
namespace Go.Vai
def IntKeys (l:List MapEntry):Prop:=∀ e ∈ l,∃ a:Int,e.key = .int .i64 a
def keyIs (v:Value) (k:Int):Bool:=match v with
 | .int .i64 a=>decide (a = k)
 | _=>false
@[simp] theorem keyIs_int (a k:Int):keyIs (.int .i64 a) k = decide (a = k):=(rfl)
def gt:List MapEntry → Int → Value
 | [],_=>.slice none 0 0
 | e :: l,k=>if keyIs e.key k = true then e.val else gt l k
def gi:List MapEntry → Int → Option Nat
 | [],_=>none
 | e :: l,k=>if keyIs e.key k = true then some 0 else (gi l k).map (· + 1)
theorem find_gt:∀ (l:List MapEntry),IntKeys l → ∀ (k:Int) (i:Nat),Instr.findNow (.int .i64) (.int .i64 k) l i = some ((gi l k).map fun j=>(i + j,gt l k))
 | [],_,k,i=>rfl
 | e :: l,hk,k,i=>by
  obtain ⟨a,ha⟩:=hk e (by simp)
  have ih:=find_gt l (fun e he=>hk e (by simp [he])) k (i + 1)
  simp only [Instr.findNow,Instr.sameNow,ha,gi,gt,keyIs_int,if_true]
  by_cases h:k = a
  ·subst h; simp
  ·have h':¬ a = k:=fun e=>h e.symm
   simp only [beq_eq_false_iff_ne.2 h,ih,h',decide_false,Bool.false_eq_true,if_false]
   cases gi l k with
   | none=>rfl
   | some j=>simp; omega
theorem gt_none:∀ {l:List MapEntry} {k:Int},gi l k = none → gt l k = .slice none 0 0
 | [],_,_=>rfl
 | e :: l,k,h=>by
  simp only [gi,gt] at h ⊢
  split at h
  ·simp at h
  ·rename_i hk
   rw [if_neg hk]
   exact gt_none (by simpa using h)
theorem gi_spec:∀ {l:List MapEntry} {k:Int} {i:Nat},gi l k = some i → ∃ e,l[i]? = some e ∧ keyIs e.key k = true
 | [],_,_,h=>by simp [gi] at h
 | e :: l,k,i,h=>by
  simp only [gi] at h
  split at h
  ·rename_i hk
   obtain rfl:=Option.some.inj h
   exact ⟨e,rfl,hk⟩
  ·obtain ⟨j,hj,rfl⟩:=Option.map_eq_some_iff.1 h
   obtain ⟨e',h1,h2⟩:=gi_spec hj
   exact ⟨e',by simpa using h1,h2⟩
theorem keyIs_eq {v:Value} {k:Int} (h:keyIs v k = true):v = .int .i64 k:=by
 unfold keyIs at h
 split at h
 ·rw [of_decide_eq_true h]
 ·simp at h
theorem gt_push:∀ (l:List MapEntry) (k:Int) (v:Value) (n:Nat),gi l k = none → ∀ k',gt (l ++ [⟨.int .i64 k,v,n⟩]) k' = if k' = k then v else gt l k'
 | [],k,v,n,_,k'=>by
  simp only [List.nil_append,gt,keyIs_int,decide_eq_true_eq]
  by_cases h:k' = k
  ·simp [h]
  ·have h':¬ k = k':=fun e=>h e.symm
   simp [h,h']
 | e :: l,k,v,n,h,k'=>by
  simp only [gi] at h
  split at h
  ·simp at h
  ·rename_i hk
   have ih:=gt_push l k v n (by simpa using h) k'
   simp only [List.cons_append,gt,ih]
   by_cases h1:keyIs e.key k' = true
   ·have:¬ k' = k:=fun e'=>hk (e' ▸ h1)
    simp [h1,this]
   ·simp [h1]
theorem gt_modify:∀ (l:List MapEntry) (k:Int) (v:Value) (i:Nat),gi l k = some i → ∀ k',gt (l.modify i fun e=>{ e with key:=.int .i64 k,val:=v }) k' = if k' = k then v else gt l k'
 | [],k,v,i,h,k'=>by simp [gi] at h
 | e :: l,k,v,i,h,k'=>by
  simp only [gi] at h
  split at h
  ·rename_i hk
   obtain rfl:=Option.some.inj h
   have he:=keyIs_eq hk
   simp only [List.modify_zero_cons,gt,keyIs_int,he,decide_eq_true_eq]
   by_cases h1:k' = k
   ·simp [h1]
   ·have h':¬ k = k':=fun e=>h1 e.symm
    simp [h1,h']
  ·rename_i hk
   obtain ⟨j,hj,rfl⟩:=Option.map_eq_some_iff.1 h
   have ih:=gt_modify l k v j hj k'
   simp only [List.modify_succ_cons,gt,ih]
   by_cases h1:keyIs e.key k' = true
   ·have:¬ k' = k:=fun e'=>hk (e' ▸ h1)
    simp [h1,this]
   ·simp [h1]
theorem gi_key:∀ {l:List MapEntry} {k:Int} {i:Nat},gi l k = some i → (l[i]?).map (·.key) = some (.int .i64 k):=by
 intro l k i h
 obtain ⟨e,h1,h2⟩:=gi_spec h
 rw [h1,Option.map_some,keyIs_eq h2]
theorem keys_modify {l:List MapEntry} (h:IntKeys l) (k:Int) (v:Value) (i:Nat):IntKeys (l.modify i fun e=>{ e with key:=.int .i64 k,val:=v }):=by
 intro e he
 obtain ⟨j,hj⟩:=List.mem_iff_getElem?.1 he
 rw [List.getElem?_modify] at hj
 obtain ⟨e0,h1,h2⟩:=Option.map_eq_some_iff.1 hj
 split at h2
 ·subst h2; exact ⟨k,rfl⟩
 ·subst h2; exact h _ (List.mem_of_getElem? h1)
theorem run_setMap {P:Program} {w:World} {b:Nat} {es:Array MapEntry} {clock:Nat} (o:Go.Obj) (hb:w.heap[b]? = some (.map es clock)):(setObj b o).run P w = .ok () { w with heap:=w.heap.setIfInBounds b o }:=by
 simp [setObj,Sem.run,hb]
theorem run_getMap {P:Program} {w:World} {b:Nat} {es:Array MapEntry} {clock:Nat} (hb:w.heap[b]? = some (.map es clock)):(getObj b).run P w = .ok (.map es clock) w:=by
 simp [getObj,Sem.run,hb]
theorem run_look {P:Program} {w:World} {t kt et:TypeId} (ht:(underlying t).run P w = .ok (.map kt et) w) (hk:(underlying kt).run P w = .ok (.int .i64) w) (hz:(zeroValue et).run P w = .ok (.slice none 0 0) w)
  {b:Nat} {es:Array MapEntry} {clock:Nat} (hb:w.heap[b]? = some (.map es clock)) (hI:IntKeys es.toList) (k:Int):(Instr.lookup t (.map (some b)) (.int .i64 k) false).run P w = .ok (gt es.toList k) w:=by
 have hc:∀ b,(Instr.checkKey b 10000 kt (.int .i64 k)).run P w = .ok () w:=fun b=>checkKey_int b 9999 k hk
 have hf:=find_gt es.toList hI k 0
 cases hg:gi es.toList k with
 | none =>
  rw [hg] at hf
  simp [Instr.lookup,ht,run_getMap hb,hc,Instr.findKey,hk,hf,hz,gt_none hg]
 | some j =>
  rw [hg] at hf
  simp [Instr.lookup,ht,run_getMap hb,hc,Instr.findKey,hk,hf]
theorem run_upd {P:Program} {w:World} {t kt et:TypeId} (ht:(underlying t).run P w = .ok (.map kt et) w) (hk:(underlying kt).run P w = .ok (.int .i64) w)
  {b:Nat} {es:Array MapEntry} {clock:Nat} (hb:w.heap[b]? = some (.map es clock)) (hI:IntKeys es.toList) (k:Int) (v:Value) :
  ∃ es' clock',(Instr.mapUpdate t (.map (some b)) (.int .i64 k) v).run P w = .ok () { w with heap:=w.heap.setIfInBounds b (.map es' clock') } ∧ IntKeys es'.toList ∧ ∀ k',gt es'.toList k' = if k' = k then v else gt es.toList k':=by
 have hc:∀ b,(Instr.checkKey b 10000 kt (.int .i64 k)).run P w = .ok () w:=fun b=>checkKey_int b 9999 k hk
 have hf:=find_gt es.toList hI k 0
 cases hg:gi es.toList k with
 | none =>
  rw [hg] at hf
  refine ⟨es.push ⟨.int .i64 k,v,clock⟩,clock + 1, ?_, ?_,fun k'=>?_⟩
  ·simp [Instr.mapUpdate,ht,run_getMap hb,hc,Instr.findKey,hk,hf,run_setMap _ hb]
  ·intro e he
   rw [Array.toList_push,List.mem_append] at he
   rcases he with he | he
   ·exact hI e he
   ·obtain rfl:=List.mem_singleton.1 he; exact ⟨k,rfl⟩
  ·rw [Array.toList_push]; exact gt_push _ _ _ _ hg k'
 | some j =>
  rw [hg] at hf
  have hkey:(es[j]?).map (·.key) = some (.int .i64 k):=by rw [← Array.getElem?_toList]; exact gi_key hg
  have hs:Instr.sameBits 10000 (.int .i64 k) (.int .i64 k) = true:=by simp [Instr.sameBits]
  refine ⟨es.modify j fun e=>{ e with key:=.int .i64 k,val:=v },clock, ?_, ?_,fun k'=>?_⟩
  ·simp [Instr.mapUpdate,ht,run_getMap hb,hc,Instr.findKey,hk,hf,hkey,Instr.keyThatStays,hs,run_setMap _ hb]
  ·rw [Array.toList_modify]; exact keys_modify hI k v j
  ·rw [Array.toList_modify]; exact gt_modify _ _ _ _ hg k'
structure GrpE (w:World) (e:TypeId) (base b:Nat) (es:Array MapEntry) (clock:Nat) (nb:Int → List Int):Prop where
 at_:w.heap[b]? = some (.map es clock)
 keys:IntKeys es.toList
 lt:b < base
 row:∀ k,w.ownsRow base e 1 (gt es.toList k) (nb k).length ((nb k).map (Value.int .i64))
 dis:∀ k k',k ≠ k' → (gt es.toList k).ownBlock = none ∨ (gt es.toList k).ownBlock ≠ (gt es.toList k').ownBlock
def GBlk (b:Nat) (es:Array MapEntry) (x:Nat):Prop:=x = b ∨ ∃ k,(gt es.toList k).ownBlock = some x
theorem GrpE.made (w:World) (e:TypeId):GrpE (w.alloc (.map #[] 0)) e (w.heap.size + 1) w.heap.size #[] 0 (fun _=>[]) :=
 ⟨heap_alloc_new w _,fun e he=>by simp at he,Nat.lt_succ_self _,fun k=>World.ownsRow_nil _ _ _ _,fun k k' _=>.inl rfl⟩
theorem ownsRow_same {w w':World} {base:Nat} {e:TypeId} {size:Nat} {v:Value} {n:Nat} {xs:List Value} (h:w.ownsRow base e size v n xs) (hw:∀ g,v.ownBlock = some g → w'.heap[g]? = w.heap[g]?):w'.ownsRow base e size v n xs:=by
 obtain ⟨h1,h2⟩:=h
 refine ⟨h1, ?_⟩
 rcases h2 with h2 | ⟨g,cap,cur,rfl,g1,g2,g3⟩
 ·exact .inl h2
 ·exact .inr ⟨g,cap,cur,rfl,g1,(hw g rfl).trans g2,g3⟩
theorem GrpE.kept {w w':World} {e:TypeId} {base b:Nat} {es:Array MapEntry} {clock:Nat} {nb:Int → List Int} (h:GrpE w e base b es clock nb) (hw:∀ x,GBlk b es x → w'.heap[x]? = w.heap[x]?):GrpE w' e base b es clock nb :=
 ⟨(hw b (.inl rfl)).trans h.at_,h.keys,h.lt,fun k=>ownsRow_same (h.row k) fun g hg=>hw g (.inr ⟨k,hg⟩),h.dis⟩
theorem GrpE.blk_lt {w:World} {e:TypeId} {base b:Nat} {es:Array MapEntry} {clock:Nat} {nb:Int → List Int} (h:GrpE w e base b es clock nb) {x:Nat} (hx:GBlk b es x):x < w.heap.size:=by
 rcases hx with rfl | ⟨k,hk⟩
 ·exact (Array.getElem?_eq_some_iff.1 h.at_).1
 ·exact ((h.row k).lt x hk).2
theorem heap_set_same {w:World} {b:Nat} {o o':Go.Obj} (hb:w.heap[b]? = some o):({ w with heap:=w.heap.setIfInBounds b o' }:World).heap[b]? = some o':=by
 have:=(Array.getElem?_eq_some_iff.1 hb).1
 simp [this]
theorem heap_set_ne {w:World} {b x:Nat} {o':Go.Obj} (h:x ≠ b):({ w with heap:=w.heap.setIfInBounds b o' }:World).heap[x]? = w.heap[x]?:=by
 simp [Array.getElem?_setIfInBounds_ne h.symm]
theorem GrpE.upd {P:Program} {w w1:World} {t kt et e:TypeId} (ht:(underlying t).run P w1 = .ok (.map kt et) w1) (hk:(underlying kt).run P w1 = .ok (.int .i64) w1)
  {base b:Nat} {es:Array MapEntry} {clock:Nat} {nb:Int → List Int} (h:GrpE w e base b es clock nb) (k:Int) {v':Value} {zs:List Int} (hg:w.grownBy w1 (gt es.toList k).ownBlock) (hbase:base ≤ w.heap.size)
  (ho:w1.ownsRow base e 1 v' zs.length (zs.map (Value.int .i64))) (hl:v'.ownBlock = (gt es.toList k).ownBlock ∨ v'.ownBlock = none ∨ ∃ g,v'.ownBlock = some g ∧ w.heap.size ≤ g) :
  ∃ es' clock',(Instr.mapUpdate t (.map (some b)) (.int .i64 k) v').run P w1 = .ok () { w1 with heap:=w1.heap.setIfInBounds b (.map es' clock') } ∧
   GrpE { w1 with heap:=w1.heap.setIfInBounds b (.map es' clock') } e base b es' clock' (fun k'=>if k' = k then zs else nb k') ∧ ∀ x,GBlk b es' x → GBlk b es x ∨ w.heap.size ≤ x:=by
 have hbs:=(Array.getElem?_eq_some_iff.1 h.at_).1
 have hbv:some b ≠ (gt es.toList k).ownBlock:=fun e'=>by
  have:=((h.row k).lt b e'.symm).1
  have:=h.lt; omega
 have hb1:w1.heap[b]? = some (.map es clock):=(hg.block b hbs hbv).trans h.at_
 obtain ⟨es',clock',h1,h2,h3⟩:=run_upd ht hk hb1 h.keys k v'
 have hown:∀ k' g,(gt es'.toList k').ownBlock = some g → g ≠ b:=fun k' g hgk=>by
  rw [h3] at hgk
  split at hgk
  ·have:=(ho.lt g hgk).1; have:=h.lt; omega
  ·have:=((h.row k').lt g hgk).1; have:=h.lt; omega
 refine ⟨es',clock',h1,⟨heap_set_same hb1,h2,h.lt,fun k'=>?_,fun k1 k2 hne=>?_⟩,fun x hx=>?_⟩
 ·rw [h3]
  by_cases e':k' = k
  ·subst e'
   simp only [if_true]
   exact ownsRow_same ho fun g hgk=>heap_set_ne (by have:=(ho.lt g hgk).1; have:=h.lt; omega)
  ·simp only [e',if_false]
   refine ownsRow_same (h.row k') fun g hgk=>?_
   have q1:=(h.row k').lt g hgk
   rw [heap_set_ne (by have:=h.lt; omega)]
   refine hg.block g q1.2 fun e2=>?_
   rcases h.dis k' k e' with q | q
   ·rw [q] at hgk; simp at hgk
   ·exact q (hgk.trans e2)
 ·rw [h3,h3]
  by_cases e1:k1 = k
  ·subst e1
   have e2:¬ k2 = k1:=fun e=>hne e.symm
   simp only [if_true,e2,if_false]
   rcases hl with hl | hl | ⟨g,hl,hgs⟩
   ·rw [hl]; exact h.dis k1 k2 hne
   ·exact .inl hl
   ·refine .inr fun e3=>?_
    rw [hl] at e3
    have:=((h.row k2).lt g e3.symm).2; omega
  ·by_cases e2:k2 = k
   ·subst e2
    simp only [e1,if_false,if_true]
    rcases hl with hl | hl | ⟨g,hl,hgs⟩
    ·rw [hl]; exact h.dis k1 k2 hne
    ·cases hq:(gt es.toList k1).ownBlock with
     | none=>exact .inl rfl
     | some g=>right; rw [hl]; simp
    ·refine .inr fun e3=>?_
     rw [hl] at e3
     have:=((h.row k1).lt g e3).2; omega
   ·simp only [e1,e2,if_false]; exact h.dis k1 k2 hne
 ·rcases hx with rfl | ⟨k',hk'⟩
  ·exact .inl (.inl rfl)
  ·rw [h3] at hk'
   split at hk'
   ·rcases hl with hl | hl | ⟨g,hl,hgs⟩
    ·exact .inl (.inr ⟨k,by rw [← hl]; exact hk'⟩)
    ·rw [hl] at hk'; simp at hk'
    ·rw [hl] at hk'; obtain rfl:=Option.some.inj hk'; exact .inr hgs
   ·exact .inl (.inr ⟨k',hk'⟩)
theorem GrpE.rep {w:World} {e:TypeId} {base b:Nat} {es:Array MapEntry} {clock:Nat} {nb:Int → List Int} (h:GrpE w e base b es clock nb) {F:Nat → Prop} (hF:∀ x,GBlk b es x → F x) :
  Rep F w (.mp fun k=>.sl ((nb k).map fun x=>[.int .i64 x])) (.map (some b)):=by
 refine .mp _ b es clock (fun k=>gt es.toList k) (hF b (.inl rfl)) h.at_ (fun k _ _=>?_) fun k _ _=>?_
 ·have hf:=find_gt es.toList h.keys k 0
  cases hg:gi es.toList k with
  | none=>rw [hg] at hf; exact .inl ⟨hf,gt_none hg⟩
  | some j=>rw [hg] at hf; exact .inr ⟨0 + j,hf⟩
 ·obtain ⟨h1,h2⟩:=h.row k
  have hFk:∀ g,(gt es.toList k).ownBlock = some g → F g:=fun g hg=>hF g (.inr ⟨k,hg⟩)
  generalize gt es.toList k = v at *
  rcases h2 with ⟨rfl,h0⟩ | ⟨g,cap,cur,rfl,g1,g2,g3,g4,g5,g6⟩
  ·rw [List.length_eq_zero_iff.1 h0]; exact .slE _ _
  ·have hl:((nb k).map fun x=>[IV.int .i64 x]).length = (nb k).length:=by simp
   have:=Rep.sl (F:=F) (w:=w) ((nb k).map fun x=>[IV.int .i64 x]) g 0 cap 1 (fun i j=>.int .i64 ((nb k).getD i 0)) (hFk g rfl) (by rw [hl]; exact g3) (fun el hel=>by
     obtain ⟨x,-,rfl⟩:=List.mem_map.1 hel; rfl) (fun i el j x hi hj=>?_) fun i el j x hi hj=>?_
   ·rwa [hl] at this
   ·rw [List.getElem?_map,Option.map_eq_some_iff] at hi
    obtain ⟨y,hy,rfl⟩:=hi
    have hj0:j = 0:=by
     have:=(List.getElem?_eq_some_iff.1 hj).1
     simpa using this
    subst hj0
    have hc:cur.toList[i]? = some (.int .i64 y):=by
     have hx:(List.take ((nb k).length * 1) cur.toList)[i]? = some (.int .i64 y):=by rw [g6,List.getElem?_map,hy]; rfl
     rw [List.getElem?_take] at hx
     split at hx
     ·exact hx
     ·simp at hx
    have hc2:cur[i]? = some (.int .i64 y):=by rw [← Array.getElem?_toList]; exact hc
    have hd:(nb k).getD i 0 = y:=by simp [List.getD_eq_getElem?_getD,hy]
    simp only [hd]; simp [World.cell?,g2,hc2]
   ·rw [List.getElem?_map,Option.map_eq_some_iff] at hi
    obtain ⟨y,hy,rfl⟩:=hi
    have hj0:j = 0:=by
     have:=(List.getElem?_eq_some_iff.1 hj).1
     simpa using this
    subst hj0
    obtain rfl:=Option.some.inj hj
    have hd:(nb k).getD i 0 = y:=by simp [List.getD_eq_getElem?_getD,hy]
    simp only [hd]; exact .int _ _
theorem count_set {l:Array Bool} {i:Nat} (h:l.getD i true = false):(l.setIfInBounds i true).toList.count false + 1 = l.toList.count false:=by
 have hi:i < l.toList.length:=by
  rcases Nat.lt_or_ge i l.size with h' | h'
  ·simpa using h'
  ·rw [Array.getD_eq_getD_getElem?,Array.getElem?_eq_none h'] at h; simp at h
 have hi':i < l.size:=by simpa using hi
 have hv:l.toList[i] = false:=by simpa [hi'] using h
 rw [Array.toList_setIfInBounds,List.count_set hi]
 have hpos:0 < l.toList.count false:=List.count_pos_iff.2 (by rw [← hv]; exact List.getElem_mem hi)
 simp only [hv]
 have hpos':0 < List.count false l.toList:=hpos
 simp only [beq_self_eq_true,if_true,show ((true == false) = true) = False by simp,if_false]
 omega
theorem all_listed {md:Region.Mode} {ops:Array Oper} (hb:∀ (i:Nat) (o:Oper),ops[i]? = some o → ∀ e ∈ o.after,Region.binds md e = true → e.on < i) {listed:Array Bool} (hs:listed.size = ops.size) (hr:Region.ready md ops listed = []) :
  ∀ i,i < ops.size → listed.getD i false = true:=by
 have key:¬ ∃ j,j < ops.size ∧ (fun i=>listed.getD i false) j = false:=fun hex=>by
  obtain ⟨j,h1,h2,h3⟩:=least_not (p:=fun i=>listed.getD i false) _ hex
  have hmem:j ∈ Region.ready md ops listed:=mem_ready.2 ⟨by
   have:j < listed.size:=by omega
   simpa [this] using h2,_,Array.getElem?_eq_getElem h1,fun e he hbd=>h3 _ (hb j _ (Array.getElem?_eq_getElem h1) e he hbd)⟩
  rw [hr] at hmem; simp at hmem
 intro i hi
 cases h:listed.getD i false with
 | true=>rfl
 | false=>exact absurd ⟨i,hi,h⟩ key
theorem wpAny_inv {P:Program} {md:Region.Mode} {ops:Array Oper} {Q:Exit → Act → World → Prop} (J:Array Bool → Act → World → Prop) (hb:∀ (i:Nat) (o:Oper),ops[i]? = some o → ∀ e ∈ o.after,Region.binds md e = true → e.on < i)
  (hstep:∀ listed a w i,listed.size = ops.size → J listed a w → i ∈ Region.ready md ops listed → wpOp P ops Q i (fun a' w'=>J (listed.setIfInBounds i true) a' w') a w)
  (hdone:∀ listed a w,(∀ i,i < ops.size → listed.getD i false = true) → J listed a w → Q .normal a w) :
  ∀ fuel listed a w,listed.size = ops.size → listed.toList.count false ≤ fuel → J listed a w → wpAny P md ops Q fuel listed a w
 | 0,listed,a,w,hs,hc,hJ=>by
  have hno:∀ i,i < ops.size → listed.getD i false = true:=fun i hi=>by
   cases h:listed.getD i false with
   | true=>rfl
   | false =>
    have hi':i < listed.size:=by omega
    have:0 < listed.toList.count false:=List.count_pos_iff.2 (by
     have hv:listed.toList[i]'(by simpa using hi') = false:=by simpa [hi'] using h
     rw [← hv]; exact List.getElem_mem _)
    omega
  refine ⟨?_,hdone listed a w hno hJ⟩
  refine List.eq_nil_iff_forall_not_mem.2 fun i hi=>?_
  obtain ⟨h1,o,h2,-⟩:=mem_ready.1 hi
  have hlt:=(Array.getElem?_eq_some_iff.1 h2).1
  have hi':i < listed.size:=by omega
  have:=hno i hlt
  simp [hi'] at this h1
  rw [this] at h1; simp at h1
 | fuel + 1,listed,a,w,hs,hc,hJ=>by
  refine ⟨fun hr=>hdone listed a w (all_listed hb hs hr) hJ,fun i hi=>?_⟩
  refine wpOp_mono (fun a' w' h=>?_) (hstep listed a w i hs hJ hi)
  have h1:=(mem_ready.1 hi).1
  have:=count_set h1
  exact wpAny_inv J hb hstep hdone fuel _ a' w' (by simpa using hs) (by omega) h
def Now (E:Env) (at_:Locs) (n:Nat) (S:St) (F:Nat → Prop) (ρ:Locs) (a:Act) (w:World):Prop:=Ctx E ⟨w,Dm ρ S.H,at_⟩ F ∧ Fit ⟨w,Dm ρ S.H,at_⟩ F n S a w F ρ
theorem Dm_lt {E:Env} {at_:Locs} {n:Nat} {S:St} {F:Nat → Prop} {ρ:Locs} {a:Act} {w:World} (h:Now E at_ n S F ρ a w) {b:Nat} (hb:Dm ρ S.H b):b < w.heap.size:=by
 obtain ⟨o,ob,L,h1,h2,rfl⟩:=hb
 obtain ⟨cs,ty,h3,-⟩:=(h.2.heap.obj o ob L h1 h2).1.at_
 exact (Array.getElem?_eq_some_iff.1 h3).1
theorem Now.world {E:Env} {at_:Locs} {n:Nat} {S:St} {F:Nat → Prop} {ρ:Locs} {a:Act} {w w':World} (h:Now E at_ n S F ρ a w) (hs:w.heap.size ≤ w'.heap.size) (hw:∀ b,F b ∨ Dm ρ S.H b → w'.heap[b]? = w.heap[b]?):Now E at_ n S F ρ a w':=by
 have hFw:∀ b,F b → w'.heap[b]? = w.heap[b]?:=fun b hb=>hw b (.inl hb)
 refine ⟨⟨h.1.glob.mono (fun _ h=>h) hFw,fun b hb hm=>?_⟩,⟨⟨Base.Kept.refl _,h.2.defers,h.2.size,fun _ h=>h,fun _ h=>.inl h,fun b hb=>Nat.lt_of_lt_of_le (h.2.lt b hb) hs,fun t v hv=>(h.2.tmps t v hv).mono (fun _ h=>h) hFw fun _ _ h=>h,
  ⟨fun o ob L h1 h2=>?_,h.2.heap.sm,h.2.heap.apart⟩⟩,h.2.dom,h.2.pin⟩⟩
 ·rcases hm with hm | hm
  ·have:=h.2.lt b hb
   have hm':w'.heap.size ≤ b:=hm
   omega
  ·exact h.1.lt b hb (.inr hm)
 ·obtain ⟨q1,q2,q3⟩:=h.2.heap.obj o ob L h1 h2
  exact ⟨q1.mono (fun _ h=>h) hFw (hw _ (.inr ⟨o,ob,L,h1,h2,rfl⟩)),.inr ⟨o,ob,L,h1,h2,rfl⟩,q3⟩
theorem getD_put_ne (a:Act) {d t:Nat} (v:Value) (h:t ≠ d):(a.put (some d) v).tmps.getD t undef = a.tmps.getD t undef:=by
 simp [Act.put,Array.getD_eq_getD_getElem?,Array.getElem?_setIfInBounds_ne h.symm]
theorem getD_put_same (a:Act) {d:Nat} (v:Value) (h:d < a.tmps.size):(a.put (some d) v).tmps.getD d undef = v:=by
 simp [Act.put,Array.getD_eq_getD_getElem?,h]
theorem Now.put {E:Env} {at_:Locs} {n:Nat} {S:St} {F:Nat → Prop} {ρ:Locs} {a:Act} {w:World} (h:Now E at_ n S F ρ a w) {d:Nat} (v:Value) (hd:look S.T d = none):Now E at_ n S F ρ (a.put (some d) v) w:=by
 refine ⟨h.1,⟨⟨h.2.below,by rw [put_defers']; exact h.2.defers,by rw [put_size']; exact h.2.size,h.2.sub,h.2.sup,h.2.lt,fun t u hu=>?_,h.2.heap⟩,h.2.dom,h.2.pin⟩⟩
 rw [getD_put_ne a v (fun e=>by subst e; rw [hd] at hu; simp at hu)]
 exact h.2.tmps t u hu
theorem Now.pre {E:Env} {at_:Locs} {n:Nat} {S:St} {F:Nat → Prop} {ρ:Locs} {a:Act} {w:World} (h:Now E at_ n S F ρ a w) {T:List (Nat × AV)} (hT:∀ t u,look T t = some u → RepA F ρ w u (a.tmps.getD t undef)) (o:Oper):Pre E F ρ T S.H o a w :=
 ⟨h.1.glob,h.2.lt,fun t v _ hv=>hT t v hv,fun id ob L hob hL=>(h.2.heap.obj id ob L hob hL).1⟩
theorem wpOp_of {P:Program} {ops:Array Oper} {Q:Exit → Act → World → Prop} {i:Nat} {o:Oper} {K:Act → World → Prop} {a:Act} {w:World} (hi:ops[i]? = some o) (hg:o.guard = none) (h:o.wp P a w K Q):wpOp P ops Q i K a w:=by
 unfold wpOp
 rw [hi]
 simp only
 rw [if_pos (by simp [Region.wanted,hg])]
 exact .inl h
theorem oper_value {P:Program} {o:Oper} {K:Act → World → Prop} {Q:Exit → Act → World → Prop} {a:Act} {w w':World} {v:Value} (h:(execOp a.eval o).run P w = .ok (.value v) w') (hK:K (a.put o.dst v) w'):o.wp P a w K Q:=by
 unfold Oper.wp
 rw [h]
 exact hK
theorem Fits.drew {z:Base} {F0:Nat → Prop} {n:Nat} {st:St} {a:Act} {w:World} (h:Fits z F0 n st a w):Fits z F0 n st a { w with drawn:=w.drawn + 1 }:=by
 obtain ⟨F,ρ,hf⟩:=h
 exact ⟨F,ρ,⟨⟨hf.below.below (Below.refl _ _).drew,hf.defers,hf.size,hf.sub,hf.sup,hf.lt,fun t v hv=>(hf.tmps t v hv).mono (w:=w) (w':={ w with drawn:=w.drawn + 1 }) (fun _ h=>h) (fun _ _=>rfl) fun _ _ h=>h,⟨fun o ob L ho hL=>by
  obtain ⟨q1,q2,q3⟩:=hf.heap.obj o ob L ho hL
  exact ⟨q1.mono (w:=w) (w':={ w with drawn:=w.drawn + 1 }) (fun _ h=>h) (fun _ _=>rfl) rfl,q2,q3⟩,hf.heap.sm,hf.heap.apart⟩⟩,hf.dom,hf.pin⟩⟩
end Go.Vai
namespace Go.Vai
structure IsOp (ops:Array Oper) (i:Nat) (op:Op) (dst:Option Nat) (deps:List Nat):Prop where
 ex:∃ o,ops[i]? = some o ∧ o.op = op ∧ o.dst = dst ∧ o.guard = none ∧ ∀ j ∈ deps,∃ e ∈ o.after,e.on = j ∧ Region.binds .any e = true
structure MapApp (ops:Array Oper) (tm tc d f1 f2:Nat):Prop where
 size:ops.size = 12
 early:∀ (i:Nat) (o:Oper),ops[i]? = some o → ∀ e ∈ o.after,Region.binds .any e = true → e.on < i
 o0:IsOp ops 0 (.move (.tmp tm)) (some (d + 0)) []
 o1:IsOp ops 1 (.fieldAddr 87 (.tmp tc) f1) (some (d + 1)) []
 o2:IsOp ops 2 (.load 2 (.tmp (d + 1))) (some (d + 2)) [1]
 o3:IsOp ops 3 (.move (.tmp tm)) (some (d + 3)) []
 o4:IsOp ops 4 (.fieldAddr 87 (.tmp tc) f1) (some (d + 4)) []
 o5:IsOp ops 5 (.load 2 (.tmp (d + 4))) (some (d + 5)) [4]
 o6:IsOp ops 6 (.lookup 249 (.tmp (d + 3)) (.tmp (d + 5)) false) (some (d + 6)) [3,5]
 o7:IsOp ops 7 (.fieldAddr 87 (.tmp tc) f2) (some (d + 7)) []
 o8:IsOp ops 8 (.load 2 (.tmp (d + 7))) (some (d + 8)) [7]
 o9:IsOp ops 9 (.buildSlice 27 1 #[(0,.tmp (d + 8))]) (some (d + 9)) [8]
 o10:IsOp ops 10 (.call { callee:=.builtin .append,args:=#[.tmp (d + 6),.tmp (d + 9)],argTypes:=#[27,27] }) (some (d + 10)) [6,9]
 o11:IsOp ops 11 (.mapUpdate 249 (.tmp (d + 0)) (.tmp (d + 2)) (.tmp (d + 10))) none [0,2,10]
def valR (b:Nat) (p:Nat → Value) (key val:Int) (f1 f2:Nat) (v0 ua v':Value):Nat → Value
 | 0=>.map (some b)
 | 1=>p f1
 | 2=>.int .i64 key
 | 3=>.map (some b)
 | 4=>p f1
 | 5=>.int .i64 key
 | 6=>v0
 | 7=>p f2
 | 8=>.int .i64 val
 | 9=>ua
 | _=>v'
def Tbl (vf:Nat → Value) (d:Nat) (listed:Array Bool) (a:Act):Prop:=∀ i,i < 11 → listed.getD i false = true → a.tmps.getD (d + i) undef = vf i
theorem Tbl.step {vf vf':Nat → Value} {d:Nat} {listed:Array Bool} {a:Act} (h:Tbl vf d listed a) (i:Nat) {v:Value} (hd:d + i < a.tmps.size) (h1:vf' i = v) (h2:∀ j,j < 11 → j ≠ i → vf' j = vf j) :
  Tbl vf' d (listed.setIfInBounds i true) (a.put (some (d + i)) v):=by
 intro j hj hl
 by_cases e:j = i
 ·subst e; rw [getD_put_same a v hd,h1]
 ·rw [getD_set_ne false (fun e'=>e e'.symm)] at hl
  rw [getD_put_ne a v (by omega),h2 j hj e]
  exact h j hj hl
structure Fin12 (base b:Nat) (es:Array MapEntry) (nb':Int → List Int) (wS w:World):Prop where
 grp:∃ es' clock',GrpE w 2 base b es' clock' nb' ∧ ∀ x,GBlk b es' x → GBlk b es x ∨ wS.heap.size ≤ x
 os:w.os = wS.os
 tape:w.tape = wS.tape
 output:w.output = wS.output
 size:wS.heap.size ≤ w.heap.size
 block:∀ x,x < wS.heap.size → ¬ GBlk b es x → w.heap[x]? = wS.heap[x]?
structure JR (at_:Locs) (n:Nat) (S:St) (F:Nat → Prop) (ρ:Locs) (base b:Nat) (es:Array MapEntry) (nb:Int → List Int) (p:Nat → Value) (key val:Int) (f1 f2 d:Nat) (wS:World) (listed:Array Bool) (a:Act) (w:World) (ua v':Value):Prop where
 now:Now E at_ n S F ρ a w
 tbl:Tbl (valR b p key val f1 f2 (gt es.toList key) ua v') d listed a
 c1:listed.getD 10 false = false → wS.grownBy w none
 c2:listed.getD 9 false = true → listed.getD 10 false = false → ∃ ad c,ua = .slice (some ad) 1 c ∧ w.cell? ad = some (.int .i64 val)
 c3:listed.getD 10 false = true → listed.getD 11 false = false → w.ownsRow base 2 1 v' (nb key ++ [val]).length ((nb key ++ [val]).map (Value.int .i64)) ∧ wS.grownBy w (gt es.toList key).ownBlock ∧ (v'.ownBlock = (gt es.toList key).ownBlock ∨ ∃ g,v'.ownBlock = some g ∧ wS.heap.size ≤ g)
 c4:listed.getD 11 false = true → Fin12 base b es (fun k=>if k = key then nb key ++ [val] else nb k) wS w
 c5:listed.getD 10 false = true → listed.getD 6 false = true ∧ listed.getD 9 false = true
 c6:listed.getD 11 false = true → listed.getD 10 false = true
 dr:wS.drawn ≤ w.drawn
theorem getD_true_false {l:Array Bool} {i:Nat} (h:l.getD i true = false):l.getD i false = false:=by
 rcases Nat.lt_or_ge i l.size with h' | h'
 ·simpa [h'] using h
 ·rw [Array.getD_eq_getD_getElem?,Array.getElem?_eq_none h'] at h; simp at h
theorem getD_set_self {l:Array Bool} {i:Nat} (h:l.getD i true = false):(l.setIfInBounds i true).getD i false = true:=by
 rcases Nat.lt_or_ge i l.size with h' | h'
 ·simp [h']
 ·rw [Array.getD_eq_getD_getElem?,Array.getElem?_eq_none h'] at h; simp at h
section
variable {at_:Locs} {n:Nat} {S:St} {F:Nat → Prop} {ρ:Locs} {base b:Nat} {es:Array MapEntry} {nb:Int → List Int} {p:Nat → Value} {key val:Int} {f1 f2 d:Nat} {wS:World} {listed:Array Bool} {a:Act} {w:World} {ua v':Value}
theorem JR.pureStep (h:JR at_ n S F ρ base b es nb p key val f1 f2 d wS listed a w ua v') (i:Nat) (hi:i < 9) (hdn:d + 11 ≤ n) (hfr:∀ i,i < 11 → look S.T (d + i) = none) {v:Value} (hv:valR b p key val f1 f2 (gt es.toList key) ua v' i = v) :
  JR at_ n S F ρ base b es nb p key val f1 f2 d wS (listed.setIfInBounds i true) (a.put (some (d + i)) v) w ua v':=by
 refine ⟨h.now.put v (hfr i (by omega)),h.tbl.step i (by rw [h.now.2.size]; omega) hv fun _ _ _=>rfl, ?_, ?_, ?_, ?_, ?_, ?_,h.dr⟩
 ·rw [getD_set_ne false (by omega)]; exact h.c1
 ·rw [getD_set_ne false (by omega),getD_set_ne false (by omega)]; exact h.c2
 ·rw [getD_set_ne false (by omega),getD_set_ne false (by omega)]; exact h.c3
 ·rw [getD_set_ne false (by omega)]; exact h.c4
 ·rw [getD_set_ne false (by omega)]; exact fun h10=>⟨getD_set_true (h.c5 h10).1,getD_set_true (h.c5 h10).2⟩
 ·rw [getD_set_ne false (by omega),getD_set_ne false (by omega)]; exact h.c6
end
theorem pure_step {at_:Locs} {n:Nat} {S:St} {F:Nat → Prop} {ρ:Locs} {a:Act} {w:World} (hN:Now E at_ n S F ρ a w) (T:List (Nat × AV)) (hT:∀ t u,look T t = some u → RepA F ρ w u (a.tmps.getD t undef)) {o:Oper} {op:Op} {dst:Option Nat} (ho:o.op = op) (hd:o.dst = dst) {r:AV}
  (hq:qpure E T S.H op = some r) {K:Act → World → Prop} {Q:Exit → Act → World → Prop} (hK:∀ v,RepA F ρ w r v → K (a.put dst v) w):o.wp E.P a w K Q:=by
 subst ho; subst hd
 obtain ⟨v,h1,h2⟩:=qpure_run hE (hN.pre hT o) hq
 exact oper_value h2 (hK v h1)
theorem look_one {t s:Nat} {x u:AV} (h:look [(t,x)] s = some u):s = t ∧ u = x:=by
 simp only [look_cons,look_nil] at h
 split at h
 ·rename_i e; exact ⟨e.symm,(Option.some.inj h).symm⟩
 ·simp at h
def crow (c:Nat → Int):List IV:=[.int .i64 (c 0),.int .i64 (c 1),.int .i64 (c 2)]
theorem q_field (tc:Nat) (oc f:Nat) (hf:f = 0 ∨ f = 1) (H:List (Nat × Obj)):qpure E [(tc,.ptr oc 0 0)] H (.fieldAddr 87 (.tmp tc) f) = some (.ptr oc 0 f):=by
 rcases hf with rfl | rfl <;> simp
theorem q_load (t oc f:Nat) (hf:f = 0 ∨ f = 1) (c:Nat → Int) {H:List (Nat × Obj)} (hH:look H oc = some ⟨3,[crow c]⟩):qpure E [(t,.ptr oc 0 f)] H (.load 2 (.tmp t)) = some (.i (.int .i64 (c f))):=by
 rcases hf with rfl | rfl <;> simp [hH,crow]
theorem und137 (w:World):(underlying 249).run E.P w = .ok (.map 2 27) w:=by
 obtain ⟨d,h1,h2,-⟩:=tk_und hE (t:=249) (k:=.map 2 27) (by simp) w
 cases d <;> simp [TK.fits] at h2
 obtain ⟨rfl,rfl⟩:=h2
 exact h1
theorem und2 (w:World):(underlying 2).run E.P w = .ok (.int .i64) w:=by
 obtain ⟨d,h1,h2,-⟩:=tk_und hE (t:=2) (k:=.int .i64) (by simp) w
 cases d <;> simp [TK.fits] at h2
 subst h2
 exact h1
theorem und53:E.P.underlying 27 = some (.slice 2):=by
 have ht:tkOf E 27 = some (.slice 2):=by simp
 obtain ⟨i,hi,hk⟩:=Option.map_eq_some_iff.1 ht
 obtain ⟨d,h1,h2,-⟩:=(hE.ty _ i hi).und
 rw [hk] at h2
 cases d <;> simp [TK.fits] at h2
 subst h2
 exact h1
theorem zero53 (w:World):(zeroValue 27).run E.P w = .ok (.slice none 0 0) w:=by
 have ht:tkOf E 27 = some (.slice 2):=by simp
 obtain ⟨i,hi,hk⟩:=Option.map_eq_some_iff.1 ht
 obtain ⟨inf,h1,h2⟩:=(hE.ty _ i hi).zs _ hk
 simp [zeroValue,typeInfo,h1,h2]
theorem info2:∃ inf z,E.P.info? 2 = some inf ∧ inf.zero = some z ∧ inf.size = 1 ∧ inf.bytes = 8 ∧ z.cells.size = 1:=by
 have ht:∃ i,E.τ 2 = some i ∧ i.size = 1 ∧ i.bytes = 8 ∧ i.zero.length = 1:=⟨_,by simp; rfl,rfl,rfl,rfl⟩
 obtain ⟨i,hi,h1,h2,h3⟩:=ht
 obtain ⟨inf,g1,g2,g3,g4⟩:=(hE.ty _ i hi).info
 obtain ⟨-,z,g5,g6⟩:=g4 (fun e=>by rw [e] at h3; simp at h3)
 exact ⟨inf,z,g1,g5,g2.trans h1,g3.trans h2,by rw [g6]; simp [h3]⟩
end Go.Vai
namespace Go.Vai
theorem grown_refl (w:World) (row:Option Nat):w.grownBy w row:=⟨rfl,rfl,rfl,Nat.le_refl _,fun _ _ _=>rfl⟩
theorem grown_none {w w':World} {row:Option Nat} (h:w.grownBy w' none):w.grownBy w' row:=⟨h.os,h.tape,h.output,h.size,fun k hk _=>h.block k hk (by simp)⟩
theorem append_dr {P:Program} {w w':World} {base:Nat} {t ty e:TypeId} {i:TypeInfo} {z:Value} (ht:P.underlying t = some (.slice e)) (hi:P.info? e = some i) (hz:i.zero = some z)
  (hzs:z.cells.size = i.size) (hs1:i.size = 1) (hb8:i.bytes = 8) {v:Value} {n:Nat} {xs:List Value} (hown:w.ownsRow base e i.size v n xs) {a:Addr} {c:Nat} {news:List Value} (hl:news.length = 1 * i.size) (hnews:∀ j u,news[j]? = some u → w.cell? (a.add j) = some u) (h1:∀ u ∈ news,u.oneCell' = true)
  (hn:n ≤ 1048576) {v':Value} (hr:(Builtin.append_ #[t,t] ty #[v,.slice (some a) 1 c]).run P w = .ok v' w'):w.drawn ≤ w'.drawn:=by
 rcases hown.2 with ⟨rfl,rfl⟩ | ⟨g,cap,cur,rfl,hbg,hg,hnc,hcm,hcs,htake⟩
 ·have h:=run_append_nil (P:=P) w t ty e i z ht hi hz a 1 c news hl hnews (by omega) (by omega) (by omega)
  rw [h] at hr
  injection hr with _ hw
  rw [← hw]; exact Nat.le_succ _
 ·by_cases hroom:n + 1 ≤ cap
  ·have hfit:n * i.size + news.length ≤ cur.size:=by rw [hl,hcs,← Nat.add_mul]; exact Nat.mul_le_mul_right _ hroom
   have h:=run_append_room (P:=P) w t ty e i ht hi g n cap cur hg a 1 c news hl hnews h1 hroom hfit
   rw [h] at hr
   injection hr with _ hw
   rw [← hw]; exact Nat.le_refl _
  ·have holds:∀ j u,xs[j]? = some u → w.cell? ((⟨g,0,none⟩:Addr).add j) = some u:=hown.cells (g:=g) rfl
   have h:=run_append_grow (P:=P) w t ty e i z ht hi hz ⟨g,0,none⟩ n cap xs hown.1 holds a 1 c news hl hnews (by omega) (by omega) (growslice_fits (by omega) (by rw [hb8]; omega))
   rw [h] at hr
   injection hr with _ hw
   rw [← hw]; exact Nat.le_succ _
theorem oper_skip {P:Program} {o:Oper} {K:Act → World → Prop} {Q:Exit → Act → World → Prop} {a:Act} {w w':World} (h:(execOp a.eval o).run P w = .ok .skip w') (hK:K (a.put o.dst undef) w'):o.wp P a w K Q:=by
 unfold Oper.wp
 rw [h]
 exact hK
theorem mapApp_wp {ops:Array Oper} {id tm tc d f1 f2:Nat} (hm:MapApp ops tm tc d f1 f2) (hf1:f1 = 0 ∨ f1 = 1) (hf2:f2 = 0 ∨ f2 = 1) {z0 z1:Base} {F0 F1:Nat → Prop} {n:Nat} {S:St} {a:Act} {w:World} {Q:Exit → Act → World → Prop}
  (hx:Ctx E z1 F1) (hb:Back z0 F0 z1 F1) (hf:Fits z1 F1 n S a w) {es:Array MapEntry} {clock b base:Nat} {nb:Int → List Int} (hG:GrpE z1.w 2 base b es clock nb) (hO:Out z0 z1 F1 (GBlk b es)) (hbase:base ≤ z1.w.heap.size)
  {oc:Nat} {c:Nat → Int} (hTm:look S.T tm = some (.i (.raw (.map (some b))))) (hTc:look S.T tc = some (.ptr oc 0 0)) (hH:look S.H oc = some ⟨3,[crow c]⟩) (hfr:∀ i,i < 11 → look S.T (d + i) = none) (hdn:d + 11 ≤ n)
  (hlen:(nb (c f1)).length ≤ 1048576)
  (hQ:∀ a' w' z2 F2 es' clock',Ctx E z2 F2 → Back z0 F0 z2 F2 → Fits z2 F2 n S a' w' → GrpE z2.w 2 base b es' clock' (fun k=>if k = c f1 then nb (c f1) ++ [c f2] else nb k) → Out z0 z2 F2 (GBlk b es') → base ≤ z2.w.heap.size → Q .normal a' w') :
  (Code.region id ops true).wp E.P Q a w:=by
 have hfd:=hf.drew
 refine wp_region_any hE.many ?_
 generalize hwS:({ w with drawn:=w.drawn + 1 }:World) = wS at hfd
 obtain ⟨F,ρ,hfit⟩:=hfd
 obtain ⟨r1,r2,r3⟩:=hfit.restart hx
 have hN0:Now E z1.at_ n S F ρ a wS:=⟨r1,r2⟩
 have hsame:∀ x,GBlk b es x → wS.heap[x]? = z1.w.heap[x]?:=fun x hx'=>hfit.below.block x (hO x hx').2.1
 have hGS:GrpE wS 2 base b es clock nb:=hG.kept hsame
 have hszS:z1.w.heap.size ≤ wS.heap.size:=hfit.below.size
 have hnF:∀ x,GBlk b es x → ¬ F x:=fun x hx' hF=>(hfit.sup x hF).elim (hO x hx').1 (hO x hx').2.1
 have hDz:∀ x,Dm ρ S.H x → z1.mine x:=by
  rintro x ⟨o,ob,L,h1,h2,rfl⟩; exact (hfit.heap.obj o ob L h1 h2).2.1
 have hnD:∀ x,GBlk b es x → ¬ Dm ρ S.H x:=fun x hx' hd=>(hO x hx').2.1 (hDz x hd)
 obtain ⟨L,hL⟩:=Option.isSome_iff_exists.1 (hfit.heap.sm oc _ hH (by simp))
 obtain ⟨p,hp⟩:∃ p:Nat → Value,p = fun f=>Value.pointer (some ⟨L.b,L.base + 0 * L.sz + f,none⟩):=⟨_,rfl⟩
 have hptr:∀ (w':World) (f:Nat),RepA F ρ w' (.ptr oc 0 f) (p f):=fun w' f=>by rw [hp]; exact .ptr oc 0 f L hL
 have hptr':∀ {w':World} {f:Nat} {v:Value},RepA F ρ w' (.ptr oc 0 f) v → p f = v:=by
  intro w' f v h
  cases h with | ptr _ _ _ L' ho=>rw [hL] at ho; obtain rfl:=Option.some.inj ho; rw [hp]
 have hraw':∀ {w':World} {v:Value},RepA F ρ w' (.i (.raw (.map (some b)))) v → Value.map (some b) = v:=by
  intro w' v h
  cases h with | i _ _ h=>cases h; rfl
 refine wpAny_inv (fun listed a w=>∃ ua v',JR z1.at_ n S F ρ base b es nb p (c f1) (c f2) f1 f2 d wS listed a w ua v') hm.early ?_ ?_ ops.size _ a wS (by simp) (by simp) ?_
 ·rintro listed a w i hs ⟨ua,v',hJ⟩ hi
  obtain ⟨hli,o,ho,hed⟩:=mem_ready.1 hi
  have hi12:i < 12:=by rw [← hm.size]; exact (Array.getElem?_eq_some_iff.1 ho).1
  have hli':=getD_true_false hli
  have dep:∀ {op:Op} {dst:Option Nat} {deps:List Nat},IsOp ops i op dst deps → o.op = op ∧ o.dst = dst ∧ o.guard = none ∧ ∀ j ∈ deps,listed.getD j false = true:=by
   rintro op dst deps ⟨o',h1,h2,h3,h4,h5⟩
   rw [ho] at h1
   obtain rfl:=Option.some.inj h1
   exact ⟨h2,h3,h4,fun j hj=>by obtain ⟨e,he,rfl,hbd⟩:=h5 j hj; exact hed e he hbd⟩
  have tb:∀ j,j < 11 → listed.getD j false = true → a.tmps.getD (d + j) undef = valR b p (c f1) (c f2) f1 f2 (gt es.toList (c f1)) ua v' j:=hJ.tbl
  have hcases:i = 0 ∨ i = 1 ∨ i = 2 ∨ i = 3 ∨ i = 4 ∨ i = 5 ∨ i = 6 ∨ i = 7 ∨ i = 8 ∨ i = 9 ∨ i = 10 ∨ i = 11:=by omega
  have one:∀ (t:Nat) (x:AV) (v:Value),a.tmps.getD t undef = v → RepA F ρ w x v → ∀ s u,look [(t,x)] s = some u → RepA F ρ w u (a.tmps.getD s undef):=by
   intro t x v h1 h2 s u h
   obtain ⟨rfl,rfl⟩:=look_one h
   rw [h1]; exact h2
  have slot:∀ (t:Nat) (x:AV),look S.T t = some x → ∀ s u,look [(t,x)] s = some u → RepA F ρ w u (a.tmps.getD s undef):=by
   intro t x h1 s u h
   obtain ⟨rfl,rfl⟩:=look_one h
   exact hJ.now.2.tmps _ _ h1
  rcases hcases with rfl | rfl | rfl | rfl | rfl | rfl | rfl | rfl | rfl | rfl | rfl | rfl
  ·obtain ⟨e1,e2,e3,e4⟩:=dep hm.o0
   exact wpOp_of ho e3 (pure_step hJ.now [(tm,.i (.raw (.map (some b))))] (slot _ _ hTm) e1 e2 (r:=.i (.raw (.map (some b)))) (by simp) fun v hv=>⟨ua,v',hJ.pureStep 0 (by omega) hdn hfr (hraw' hv)⟩)
  ·obtain ⟨e1,e2,e3,e4⟩:=dep hm.o1
   exact wpOp_of ho e3 (pure_step hJ.now [(tc,.ptr oc 0 0)] (slot _ _ hTc) e1 e2 (q_field tc oc f1 hf1 _) fun v hv=>⟨ua,v',hJ.pureStep 1 (by omega) hdn hfr (hptr' hv)⟩)
  ·obtain ⟨e1,e2,e3,e4⟩:=dep hm.o2
   exact wpOp_of ho e3 (pure_step hJ.now [(d + 1,.ptr oc 0 f1)] (one _ _ _ (tb 1 (by omega) (e4 1 (by simp))) (hptr _ _)) e1 e2 (q_load (d + 1) oc f1 hf1 c hH) fun v hv=>⟨ua,v',hJ.pureStep 2 (by omega) hdn hfr hv.int_inv.symm⟩)
  ·obtain ⟨e1,e2,e3,e4⟩:=dep hm.o3
   exact wpOp_of ho e3 (pure_step hJ.now [(tm,.i (.raw (.map (some b))))] (slot _ _ hTm) e1 e2 (r:=.i (.raw (.map (some b)))) (by simp) fun v hv=>⟨ua,v',hJ.pureStep 3 (by omega) hdn hfr (hraw' hv)⟩)
  ·obtain ⟨e1,e2,e3,e4⟩:=dep hm.o4
   exact wpOp_of ho e3 (pure_step hJ.now [(tc,.ptr oc 0 0)] (slot _ _ hTc) e1 e2 (q_field tc oc f1 hf1 _) fun v hv=>⟨ua,v',hJ.pureStep 4 (by omega) hdn hfr (hptr' hv)⟩)
  ·obtain ⟨e1,e2,e3,e4⟩:=dep hm.o5
   exact wpOp_of ho e3 (pure_step hJ.now [(d + 4,.ptr oc 0 f1)] (one _ _ _ (tb 4 (by omega) (e4 4 (by simp))) (hptr _ _)) e1 e2 (q_load (d + 4) oc f1 hf1 c hH) fun v hv=>⟨ua,v',hJ.pureStep 5 (by omega) hdn hfr hv.int_inv.symm⟩)
  ·obtain ⟨e1,e2,e3,e4⟩:=dep hm.o6
   have h10:listed.getD 10 false = false:=by
    cases h:listed.getD 10 false with
    | false=>rfl
    | true=>rw [(hJ.c5 h).1] at hli'; simp at hli'
   have hg:=hJ.c1 h10
   have hGw:GrpE w 2 base b es clock nb:=hGS.kept fun x hx'=>hg.block x (hGS.blk_lt hx') (by simp)
   have hr:=run_look (P:=E.P) (und137 w) (und2 w) (zero53 w) hGw.at_ hGw.keys (c f1)
   have e5:a.eval (.tmp (d + 3)) = .map (some b):=tb 3 (by omega) (e4 3 (by simp))
   have e6:a.eval (.tmp (d + 5)) = .int .i64 (c f1):=tb 5 (by omega) (e4 5 (by simp))
   refine wpOp_of ho e3 (oper_value (v:=gt es.toList (c f1)) (w':=w) ?_ ?_)
   ·unfold execOp; rw [e1]; simp only [e5,e6]; exact value_of hr
   ·rw [e2]; exact ⟨ua,v',hJ.pureStep 6 (by omega) hdn hfr rfl⟩
  ·obtain ⟨e1,e2,e3,e4⟩:=dep hm.o7
   exact wpOp_of ho e3 (pure_step hJ.now [(tc,.ptr oc 0 0)] (slot _ _ hTc) e1 e2 (q_field tc oc f2 hf2 _) fun v hv=>⟨ua,v',hJ.pureStep 7 (by omega) hdn hfr (hptr' hv)⟩)
  ·obtain ⟨e1,e2,e3,e4⟩:=dep hm.o8
   exact wpOp_of ho e3 (pure_step hJ.now [(d + 7,.ptr oc 0 f2)] (one _ _ _ (tb 7 (by omega) (e4 7 (by simp))) (hptr _ _)) e1 e2 (q_load (d + 7) oc f2 hf2 c hH) fun v hv=>⟨ua,v',hJ.pureStep 8 (by omega) hdn hfr hv.int_inv.symm⟩)
  ·obtain ⟨e1,e2,e3,e4⟩:=dep hm.o9
   have h10:listed.getD 10 false = false:=by
    cases h:listed.getD 10 false with
    | false=>rfl
    | true=>rw [(hJ.c5 h).2] at hli'; simp at hli'
   have h11:listed.getD 11 false = false:=by
    cases h:listed.getD 11 false with
    | false=>rfl
    | true=>rw [hJ.c6 h] at h10; simp at h10
   have hg:=hJ.c1 h10
   have hq:qfresh E [(d + 8,.i (.int .i64 (c f2)))] (d + 9) o.op = some (.own (d + 9) 0 1,⟨1,[[.int .i64 (c f2)]]⟩):=by rw [e1]; simp [partsA]
   refine wpOp_of ho e3 (QOK.fresh hE (H:=S.H) hq F ρ a w (hJ.now.pre (one _ _ _ (tb 8 (by omega) (e4 8 (by simp))) (.i _ _ (.int _ _))) o) _ _ fun cv w' F' ρ' hpost=>?_)
   have hcell:∃ ad k,cv = .slice (some ad) 1 k ∧ w'.cell? ad = some (.int .i64 (c f2)):=by
    have hr:=hpost.rep
    generalize hone:(1:Nat) = len at hr
    cases hr with
    | own _ _ _ k L' ho' hm' hl' hN' =>
     subst hone
     obtain ⟨-,-,-,-,cs,ty,g1,g2,g3⟩:=(hpost.obj (d + 9) ⟨1,[[.int .i64 (c f2)]]⟩ L' (by simp) ho').1
     obtain ⟨u,g4,g5⟩:=g3 0 _ 0 _ rfl rfl
     have:u = .int .i64 (c f2):=by cases g5; rfl
     subst this
     refine ⟨_,k,rfl, ?_⟩
     simp only [Nat.zero_mul,Nat.add_zero] at g4 ⊢
     simp [World.cell?,g1,g4]
    | ownE=>omega
   rw [e2]
   refine ⟨cv,v',hJ.now.world hpost.below.size (fun x hx'=>hpost.below.block x (hx'.elim (fun h=>hJ.now.2.lt x h) (Dm_lt hJ.now))) |>.put cv (hfr 9 (by omega)),hJ.tbl.step 9 (by rw [hJ.now.2.size]; omega) rfl (fun j hj hne=>?_),fun _=>?_,fun _ _=>hcell,fun h=>?_,fun h=>?_,fun h=>?_,fun h=>?_,Nat.le_trans hJ.dr hpost.below.drawn⟩
   ·match j,hj,hne with
    | 0,_,_ | 1,_,_ | 2,_,_ | 3,_,_ | 4,_,_ | 5,_,_ | 6,_,_ | 7,_,_ | 8,_,_ | 10,_,_=>rfl
   ·exact ⟨hpost.below.os.trans hg.os,hpost.below.tape.trans hg.tape,hpost.below.output.trans hg.output,Nat.le_trans hg.size hpost.below.size,fun x hx' hne=>(hpost.below.block x (Nat.lt_of_lt_of_le hx' hg.size)).trans (hg.block x hx' hne)⟩
   ·rw [getD_set_ne false (by omega),h10] at h; simp at h
   ·rw [getD_set_ne false (by omega),h11] at h; simp at h
   ·rw [getD_set_ne false (by omega),h10] at h; simp at h
   ·rw [getD_set_ne false (by omega),h11] at h; simp at h
  ·obtain ⟨e1,e2,e3,e4⟩:=dep hm.o10
   have h11:listed.getD 11 false = false:=by
    cases h:listed.getD 11 false with
    | false=>rfl
    | true=>rw [hJ.c6 h] at hli'; simp at hli'
   have hg:=hJ.c1 hli'
   have hGw:GrpE w 2 base b es clock nb:=hGS.kept fun x hx'=>hg.block x (hGS.blk_lt hx') (by simp)
   obtain ⟨ad,k,rfl,hcell⟩:=hJ.c2 (e4 9 (by simp)) hli'
   obtain ⟨inf,z,i1,i2,i3,i4,i5⟩:=info2
   have e5:a.eval (.tmp (d + 6)) = gt es.toList (c f1):=tb 6 (by omega) (e4 6 (by simp))
   have e6:a.eval (.tmp (d + 9)) = .slice (some ad) 1 k:=tb 9 (by omega) (e4 9 (by simp))
   obtain ⟨v2,w2,hr,hown,hgrow,-,hat⟩:=run_append_own_at (P:=E.P) w base 27 o.type 2 inf z 1 8 und53 i1 i2 i3 i4 i5 (by omega) (gt es.toList (c f1)) (nb (c f1)).length ((nb (c f1)).map (Value.int .i64)) (hGw.row (c f1)) ad 1 k [.int .i64 (c f2)] rfl
    (fun j u hj=>by
     match j,hj with
     | 0,hj=>obtain rfl:=Option.some.inj hj; simpa [Addr.add] using hcell) (fun u hu=>by obtain rfl:=List.mem_singleton.1 hu; rfl) (by simp only [maxLen]; omega) (by omega) (by have:=hg.size; omega)
   have hdr:w.drawn ≤ w2.drawn:=append_dr (P:=E.P) und53 i1 i2 (i5.trans i3.symm) i3 i4 (by rw [i3]; exact hGw.row (c f1)) (news:=[.int .i64 (c f2)]) (by rw [i3]; rfl) (fun j u hj=>by
     match j,hj with
     | 0,hj=>obtain rfl:=Option.some.inj hj; simpa [Addr.add] using hcell) (fun u hu=>by obtain rfl:=List.mem_singleton.1 hu; rfl) (by omega) hr
   have hw2:∀ x,F x ∨ Dm ρ S.H x → w2.heap[x]? = w.heap[x]?:=fun x hx'=>hgrow.block x (hx'.elim (fun h=>hJ.now.2.lt x h) (Dm_lt hJ.now)) fun e=>hx'.elim (hnF x (.inr ⟨c f1,e.symm⟩)) (hnD x (.inr ⟨c f1,e.symm⟩))
   refine wpOp_of ho e3 (oper_value (v:=v2) (w':=w2) ?_ ?_)
   ·unfold execOp
    simp only [e1,resolve,invoke,builtin,Sem.run_bind,Sem.run_pure,Result.andThen_ok,List.map_toArray,List.map_cons,List.map_nil,e5,e6,hr]
   ·rw [e2]
    refine ⟨.slice (some ad) 1 k,v2,hJ.now.world hgrow.size hw2 |>.put v2 (hfr 10 (by omega)),hJ.tbl.step 10 (by rw [hJ.now.2.size]; omega) rfl (fun j hj hne=>?_),fun h=>?_,fun _ h=>?_,fun _ _=>?_,fun h=>?_,fun _=>?_,fun h=>?_,Nat.le_trans hJ.dr hdr⟩
    ·match j,hj,hne with
     | 0,_,_ | 1,_,_ | 2,_,_ | 3,_,_ | 4,_,_ | 5,_,_ | 6,_,_ | 7,_,_ | 8,_,_ | 9,_,_=>rfl
     | j + 10,hj,hne=>exact absurd (show j + 10 = 10 by omega) hne
    ·rw [getD_set_self hli] at h; simp at h
    ·rw [getD_set_self hli] at h; simp at h
    ·refine ⟨by rw [List.map_append,List.length_append]; exact hown,(grown_none hg).trans hgrow,hat.imp_right fun h=>⟨_,h,hg.size⟩⟩
    ·rw [getD_set_ne false (by omega),h11] at h; simp at h
    ·exact ⟨getD_set_true (e4 6 (by simp)),getD_set_true (e4 9 (by simp))⟩
    ·rw [getD_set_ne false (by omega),h11] at h; simp at h
  ·obtain ⟨e1,e2,e3,e4⟩:=dep hm.o11
   obtain ⟨hown,hg,hat⟩:=hJ.c3 (e4 10 (by simp)) hli'
   have e5:a.eval (.tmp d) = .map (some b):=tb 0 (by omega) (e4 0 (by simp))
   have e6:a.eval (.tmp (d + 2)) = .int .i64 (c f1):=tb 2 (by omega) (e4 2 (by simp))
   have e7:a.eval (.tmp (d + 10)) = v':=tb 10 (by omega) (e4 10 (by simp))
   obtain ⟨es',clock',hr,hG2,hB⟩:=hGS.upd (P:=E.P) (und137 w) (und2 w) (c f1) hg (by omega) hown (hat.imp_right .inr)
   have hbn:∀ x,F x ∨ Dm ρ S.H x → x ≠ b:=fun x hx' e=>hx'.elim (hnF x (.inl e)) (hnD x (.inl e))
   refine wpOp_of ho e3 (oper_skip (w':={ w with heap:=w.heap.setIfInBounds b (.map es' clock') }) ?_ ?_)
   ·unfold execOp
    simp [e1,e5,e6,e7,hr]
   ·rw [e2]
    refine ⟨ua,v',hJ.now.world (by simp) (fun x hx'=>heap_set_ne (hbn x hx')),fun j hj hl=>?_,fun h=>?_,fun _ h=>?_,fun _ h=>?_,fun _=>?_,fun h=>?_,fun _=>?_,hJ.dr⟩
    ·rw [getD_set_ne false (by omega)] at hl; exact tb j hj hl
    ·rw [getD_set_ne false (by omega),e4 10 (by simp)] at h; simp at h
    ·rw [getD_set_ne false (by omega),e4 10 (by simp)] at h; simp at h
    ·rw [getD_set_self hli] at h; simp at h
    ·refine ⟨⟨es',clock',hG2,hB⟩,hg.os,hg.tape,hg.output,by simpa using hg.size,fun x hx' hn=>?_⟩
     rw [heap_set_ne (fun e=>hn (.inl e))]
     exact hg.block x hx' fun e=>hn (.inr ⟨c f1,e.symm⟩)
    ·exact ⟨getD_set_true (hJ.c5 (e4 10 (by simp))).1,getD_set_true (hJ.c5 (e4 10 (by simp))).2⟩
    ·exact getD_set_true (e4 10 (by simp))
 ·rintro listed a' w' hall ⟨ua,v',hJ⟩
  obtain ⟨⟨es',clock',hG2,hB⟩,k1,k2,k3,k4,k5⟩:=hJ.c4 (hall 11 (by rw [hm.size]; omega))
  refine hQ a' w' ⟨w',Dm ρ S.H,z1.at_⟩ F es' clock' hJ.now.1 ⟨⟨k1.trans (hfit.below.os.trans hb.kept.os),k2.trans (hfit.below.tape.trans hb.kept.tape),k3.trans (hfit.below.output.trans hb.kept.output),Nat.le_trans hb.kept.size (Nat.le_trans hszS k4),fun x hx'=>?_,Nat.le_trans hb.kept.drawn (Nat.le_trans hfit.below.drawn hJ.dr)⟩,fun x hx'=>?_,fun x hx'=>hfit.sub x (hb.sub x hx'),fun x hx'=>?_,hb.at_⟩ ⟨F,ρ,hJ.now.2⟩ hG2 (fun x hx'=>?_) (Nat.le_trans hbase (Nat.le_trans hszS k4))
  ·have hnz:¬ z1.mine x:=fun h=>hx' (hb.mine x h)
   have hxz:x < z1.w.heap.size:=Base.not_mine hnz
   rw [k5 x (by omega) fun h=>hx' (hO x h).2.2.1,hfit.below.block x hnz]
   exact hb.kept.block x hx'
  ·rcases hx' with h | h
   ·exact .inl (Nat.le_trans (Nat.le_trans hb.kept.size (Nat.le_trans hszS k4)) h)
   ·exact hb.mine x (hDz x h)
  ·exact (hfit.sup x hx').elim (hb.sup x) fun h=>.inr (hb.mine x h)
  ·have hlt:x < w'.heap.size:=hG2.blk_lt hx'
   rcases hB x hx' with h | h
   ·refine ⟨hnF x h,fun hm'=>?_,(hO x h).2.2.1,hlt⟩
    rcases hm' with hm' | hm'
    ·have hm2:w'.heap.size ≤ x:=hm'
     omega
    ·exact hnD x h hm'
   ·refine ⟨fun hF=>by have:=hfit.lt x hF; omega,fun hm'=>?_,.inl (Nat.le_trans hb.kept.size (Nat.le_trans hszS h)),hlt⟩
    rcases hm' with hm' | hm'
    ·have hm2:w'.heap.size ≤ x:=hm'
     omega
    ·have:=Dm_lt hN0 hm'; omega
 ·refine ⟨undef,undef,hN0,fun j hj h=>?_,fun _=>grown_refl _ _,fun h=>?_,fun h=>?_,fun h=>?_,fun h=>?_,fun h=>?_,Nat.le_refl _⟩ <;> · simp [Array.getD_eq_getD_getElem?,Array.getElem?_replicate] at h; try (split at h <;> simp at h)
end Go.Vai
namespace Go.Vai
def earlyB (ops:Array Oper):Bool:=(List.range ops.size).all fun i=>match ops[i]? with
 | some o=>o.after.all fun e=>!Region.binds .any e || decide (e.on < i)
 | none=>true
theorem early_of {ops:Array Oper} (h:earlyB ops = true):∀ (i:Nat) (o:Oper),ops[i]? = some o → ∀ e ∈ o.after,Region.binds .any e = true → e.on < i:=by
 intro i o ho e he hb
 unfold earlyB at h
 rw [List.all_eq_true] at h
 have:=h i (List.mem_range.2 (Array.getElem?_eq_some_iff.1 ho).1)
 rw [ho] at this
 simp only [Array.all_eq_true_iff_forall_mem] at this
 have:=this e he
 simpa [hb] using this
def depsB (o:Oper) (deps:List Nat):Bool:=deps.all fun j=>o.after.any fun e=>e.on == j && Region.binds .any e
theorem IsOp.of {ops:Array Oper} {i:Nat} {op:Op} {dst:Option Nat} {deps:List Nat} {o:Oper} (h1:ops[i]? = some o) (h2:o.op = op) (h3:o.dst = dst) (h4:o.guard = none) (h5:depsB o deps = true):IsOp ops i op dst deps:=by
 refine ⟨o,h1,h2,h3,h4,fun j hj=>?_⟩
 unfold depsB at h5
 rw [List.all_eq_true] at h5
 have:=h5 j hj
 rw [Array.any_eq_true'] at this
 obtain ⟨e,he,hb⟩:=this
 simp only [Bool.and_eq_true,beq_iff_eq] at hb
 exact ⟨e,he,hb.1,hb.2⟩
theorem Now.slot {at_:Locs} {n:Nat} {S:St} {F:Nat → Prop} {ρ:Locs} {a:Act} {w:World} (h:Now E at_ n S F ρ a w) {d:Nat} {v:Value} {u:AV} (hd:d < n) (hr:RepA F ρ w u v):Now E at_ n ⟨(d,u) :: S.T,S.H⟩ F ρ (a.put (some d) v) w:=by
 refine ⟨h.1,⟨⟨h.2.below,by rw [put_defers']; exact h.2.defers,by rw [put_size']; exact h.2.size,h.2.sub,h.2.sup,h.2.lt,fun t x hx=>?_,h.2.heap⟩,h.2.dom,h.2.pin⟩⟩
 simp only [look_cons] at hx
 split at hx
 ·rename_i e; subst e
  obtain rfl:=Option.some.inj hx
  rw [getD_put_same a v (by rw [h.2.size]; exact hd)]; exact hr
 ·rename_i e
  rw [getD_put_ne a v (fun e'=>e e'.symm)]
  exact h.2.tmps t x hx
theorem back_now {z0 z1:Base} {F0 F1:Nat → Prop} {n:Nat} {S:St} {a:Act} {w w':World} {F:Nat → Prop} {ρ:Locs} (hb:Back z0 F0 z1 F1) (h:Fit z1 F1 n S a w F ρ) (hg:w.grownBy w' none) (hdr:w.drawn ≤ w'.drawn):Back z0 F0 ⟨w',Dm ρ S.H,z1.at_⟩ F:=by
 refine ⟨⟨hg.os.trans (h.below.os.trans hb.kept.os),hg.tape.trans (h.below.tape.trans hb.kept.tape),hg.output.trans (h.below.output.trans hb.kept.output),Nat.le_trans hb.kept.size (Nat.le_trans h.below.size hg.size),fun x hx=>?_,Nat.le_trans hb.kept.drawn (Nat.le_trans h.below.drawn hdr)⟩,fun x hx=>?_,fun x hx=>h.sub x (hb.sub x hx),fun x hx=>(h.sup x hx).elim (hb.sup x) fun hm=>.inr (hb.mine x hm),hb.at_⟩
 ·have hnz:¬ z1.mine x:=fun h=>hx (hb.mine x h)
  have h1:x < z1.w.heap.size:=Base.not_mine hnz
  rw [hg.block x (Nat.lt_of_lt_of_le h1 h.below.size) (by simp),h.below.block x hnz]
  exact hb.kept.block x hx
 ·rcases hx with hx | ⟨o,ob,L,h1,h2,rfl⟩
  ·exact .inl (Nat.le_trans hb.kept.size (Nat.le_trans h.below.size (Nat.le_trans hg.size hx)))
  ·exact hb.mine _ (h.heap.obj o ob L h1 h2).2.1
theorem value_of' {P:Program} {s:Sem Value} {w w':World} {v:Value} (h:s.run P w = .ok v w'):((do pure (.value (← s)):Sem Next)).run P w = .ok (.value v) w':=by
 simp [h]
theorem alloc_size (w:World) (o:Go.Obj):(w.alloc o).heap.size = w.heap.size + 1:=by
 show (w.heap.push o).size = _
 rw [Array.size_push]
theorem makeMap_wp {z0 z1:Base} {F0 F1:Nat → Prop} {n:Nat} {S:St} {a:Act} {w:World} (hx:Ctx E z1 F1) (hb:Back z0 F0 z1 F1) (hf:Fits z1 F1 n S a w) {o:Oper} {d:Nat} {t:TypeId} (hop:o.op = .makeMap t none) (hd:o.dst = some d) (hdn:d < n) (e:TypeId) (Q:Exit → Act → World → Prop) :
  o.wp E.P a w (fun a' w'=>∃ z2 F2 b base,Ctx E z2 F2 ∧ Back z0 F0 z2 F2 ∧ Fits z2 F2 n ⟨(d,.i (.raw (.map (some b)))) :: S.T,S.H⟩ a' w' ∧ GrpE z2.w e base b #[] 0 (fun _=>[]) ∧ Out z0 z2 F2 (GBlk b #[]) ∧ base ≤ z2.w.heap.size) Q:=by
 obtain ⟨F,ρ,h⟩:=hf
 obtain ⟨r1,r2,r3⟩:=h.restart hx
 have hN:Now E z1.at_ n S F ρ a w:=⟨r1,r2⟩
 have hg:w.grownBy (w.alloc (.map #[] 0)) none:=World.grownBy_alloc w _ none
 have hN2:Now E z1.at_ n S F ρ a (w.alloc (.map #[] 0)):=hN.world hg.size fun x hx'=>hg.block x (hx'.elim (fun h=>hN.2.lt x h) (Dm_lt hN)) (by simp)
 have hN3:=hN2.slot (v:=.map (some w.heap.size)) (u:=.i (.raw (.map (some w.heap.size)))) hdn (.i _ _ (.raw _ rfl))
 refine oper_value (v:=.map (some w.heap.size)) (w':=w.alloc (.map #[] 0)) ?_ ?_
 ·unfold execOp; rw [hop]; exact value_of' (Go.RowKit.run_makeMap t w)
 ·rw [hd]
  refine ⟨⟨w.alloc (.map #[] 0),Dm ρ S.H,z1.at_⟩,F,w.heap.size,w.heap.size + 1,hN3.1,back_now (S:=S) hb h hg (Nat.le_refl _),⟨F,ρ,hN3.2⟩,GrpE.made w e,fun x hx'=>?_,by rw [alloc_size]; exact Nat.le_refl _⟩
  have hxe:x = w.heap.size:=by
   rcases hx' with hx' | ⟨k,hk⟩
   ·exact hx'
   ·simp [gt,Value.ownBlock] at hk
  subst hxe
  refine ⟨fun hF=>Nat.lt_irrefl _ (h.lt _ hF),fun hm=>?_,.inl (Nat.le_trans hb.kept.size h.below.size),by rw [alloc_size]; exact Nat.lt_succ_self _⟩
  rcases hm with hm | hm
  ·have hm2:(w.alloc (.map #[] 0)).heap.size ≤ w.heap.size:=hm
   rw [alloc_size] at hm2; omega
  ·exact Nat.lt_irrefl _ (Dm_lt hN hm)
theorem freeze_map {z0 z1:Base} {F0 F1:Nat → Prop} {n:Nat} {S:St} {a:Act} {w:World} (hx:Ctx E z1 F1) (hb:Back z0 F0 z1 F1) (hf:Fits z1 F1 n S a w) {e:TypeId} {es:Array MapEntry} {clock b base:Nat} {nb:Int → List Int} (hG:GrpE z1.w e base b es clock nb) (hO:Out z0 z1 F1 (GBlk b es))
  {tm:Nat} (hT:look S.T tm = some (.i (.raw (.map (some b))))) :
  ∃ z2 F2,Ctx E z2 F2 ∧ Back z0 F0 z2 F2 ∧ Fits z2 F2 n ⟨(tm,.i (.mp fun k=>.sl ((nb k).map fun x=>[.int .i64 x]))) :: S.T,S.H⟩ a w:=by
 have hsame:=fun x hx'=>hO.same hf x hx'
 obtain ⟨F,ρ,h⟩:=hf
 obtain ⟨r1,r2,r3⟩:=h.restart hx
 have hN:Now E z1.at_ n S F ρ a w:=⟨r1,r2⟩
 have hGw:GrpE w e base b es clock nb:=hG.kept hsame
 have hnD:∀ x,GBlk b es x → ¬ Dm ρ S.H x:=by
  rintro x hx' ⟨o,ob,L,h1,h2,rfl⟩; exact (hO _ hx').2.1 (h.heap.obj o ob L h1 h2).2.1
 have hv:a.tmps.getD tm undef = .map (some b):=by
  have:=h.tmps tm _ hT
  generalize a.tmps.getD tm undef = u at this
  cases this with | i _ _ h=>cases h; rfl
 have hFF:∀ x,F x → F x ∨ GBlk b es x:=fun x hx'=>.inl hx'
 refine ⟨⟨w,Dm ρ S.H,z1.at_⟩,fun x=>F x ∨ GBlk b es x,⟨r1.glob.mono hFF fun _ _=>rfl,fun x hx' hm=>?_⟩,⟨(back_now hb h (World.grownBy.mk rfl rfl rfl (Nat.le_refl _) fun _ _ _=>rfl) (Nat.le_refl _)).kept,(back_now hb h (World.grownBy.mk rfl rfl rfl (Nat.le_refl _) fun _ _ _=>rfl) (Nat.le_refl _)).mine,fun x hx'=>.inl (h.sub x (hb.sub x hx')),fun x hx'=>?_,hb.at_⟩,
  fun x=>F x ∨ GBlk b es x,ρ,⟨⟨Base.Kept.refl _,h.defers,h.size,fun _ h=>h,fun _ h=>.inl h,fun x hx'=>hx'.elim (h.lt x) hGw.blk_lt,fun t u hu=>?_,⟨fun o ob L h1 h2=>?_,h.heap.sm,h.heap.apart⟩⟩,h.dom,hN.2.pin⟩⟩
 ·rcases hx' with hx' | hx'
  ·exact r1.lt x hx' hm
  ·rcases hm with hm | hm
   ·exact absurd (hGw.blk_lt hx') (Nat.not_lt.2 hm)
   ·exact hnD x hx' hm
 ·rcases hx' with hx' | hx'
  ·exact (h.sup x hx').elim (hb.sup x) fun hm=>.inr (hb.mine x hm)
  ·exact .inr (hO x hx').2.2.1
 ·simp only [look_cons] at hu
  split at hu
  ·rename_i e'; subst e'
   obtain rfl:=Option.some.inj hu
   rw [hv]
   exact .i _ _ (hGw.rep fun x hx'=>.inr hx')
  ·exact (h.tmps t u hu).mono hFF (fun _ _=>rfl) fun _ _ h=>h
 ·obtain ⟨q1,q2,q3⟩:=r2.heap.obj o ob L h1 h2
  exact ⟨q1.mono hFF (fun _ _=>rfl) rfl,q2,fun hh=>hh.elim q3 fun hg=>hnD _ hg ⟨o,ob,L,h1,h2,rfl⟩⟩
end Go.Vai
