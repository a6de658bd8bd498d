/- Texts of this claim: ZvS, Zw17, Zw18, Zw19. -/
import Derived.Test.YtiipeibaiphmpaaGreatDoorSvE
import Derived.Shelf.SlLaysF
import Derived.Test.YtiipeibaiphmpaaGreatDoorSv18
import Derived.Sort.Grow
import Derived.Sort.Statements
import Derived.Test.YtiipeibaiphmpaaGreatDoorSb44
import Derived.Shelf.SlSortCmp.Whole1
set_option linter.unusedVariables false
set_option maxHeartbeats 4000000
set_option maxRecDepth 100000
namespace Go.Vai
def sortL_ren:Go.Shelf.Ren:=⟨fun | 6=>111 | 14=>197 | 15=>150 | 20=>256 | 21=>257 | 22=>258 | 23=>259 | 24=>260 | 25=>261 | 26=>262 | 27=>263 | 28=>224 | 29=>225 | 46=>288 | 47=>267 | 48=>268 | 49=>289 | 50=>290 | 57=>299 | n=>n,fun | 0=>0 | 3=>3 | 4=>4 | 5=>5 | 9=>9 | 22=>27 | 24=>2 | 25=>132 | 39=>164 | 45=>218 | 46=>219 | 50=>223 | 53=>226 | 55=>228 | 66=>264 | 70=>268 | 76=>282 | 77=>283 | n=>n,fun n=>n⟩
theorem sortL:Proofs.SlLaysF.n6 Proofs.Tryz.prog sortL_ren:={
 mixed:=by kernel_rfl
 f6:=⟨Proofs.Tryz.f111.name,by decide,Proofs.Tryz.func111.trans (congrArg some (by kernel_rfl))⟩
 f14:=⟨Proofs.Tryz.f197.name,by decide,Proofs.Tryz.func197.trans (congrArg some (by kernel_rfl))⟩
 f15:=Proofs.Tryz.func150.trans (congrArg some (by kernel_rfl))
 f20:=⟨Proofs.Tryz.f256.name,by decide,Proofs.Tryz.func256.trans (congrArg some (by kernel_rfl))⟩
 f21:=⟨Proofs.Tryz.f257.name,by decide,Proofs.Tryz.func257.trans (congrArg some (by kernel_rfl))⟩
 f22:=⟨Proofs.Tryz.f258.name,by decide,Proofs.Tryz.func258.trans (congrArg some (by kernel_rfl))⟩
 f23:=⟨Proofs.Tryz.f259.name,by decide,Proofs.Tryz.func259.trans (congrArg some (by kernel_rfl))⟩
 f24:=⟨Proofs.Tryz.f260.name,by decide,Proofs.Tryz.func260.trans (congrArg some (by kernel_rfl))⟩
 f25:=⟨Proofs.Tryz.f261.name,by decide,Proofs.Tryz.func261.trans (congrArg some (by kernel_rfl))⟩
 f26:=⟨Proofs.Tryz.f262.name,by decide,Proofs.Tryz.func262.trans (congrArg some (by kernel_rfl))⟩
 f27:=⟨Proofs.Tryz.f263.name,by decide,Proofs.Tryz.func263.trans (congrArg some (by kernel_rfl))⟩
 f28:=Proofs.Tryz.func224.trans (congrArg some (by kernel_rfl))
 f29:=Proofs.Tryz.func225.trans (congrArg some (by kernel_rfl))
 f46:=⟨Proofs.Tryz.f288.name,by decide,Proofs.Tryz.func288.trans (congrArg some (by kernel_rfl))⟩
 f47:=Proofs.Tryz.func267.trans (congrArg some (by kernel_rfl))
 f48:=Proofs.Tryz.func268.trans (congrArg some (by kernel_rfl))
 f49:=⟨Proofs.Tryz.f289.name,by decide,Proofs.Tryz.func289.trans (congrArg some (by kernel_rfl))⟩
 f50:=⟨Proofs.Tryz.f290.name,by decide,Proofs.Tryz.func290.trans (congrArg some (by kernel_rfl))⟩
 f57:=⟨Proofs.Tryz.f299.name,by decide,Proofs.Tryz.func299.trans (congrArg some (by kernel_rfl))⟩
 t0:=Proofs.Tryz.underlying0
 a0:=Proofs.Tryz.isAgg0
 z0:=Proofs.Tryz.sizeOf0
 v0:=Proofs.Tryz.zeroValue0
 t3:=Proofs.Tryz.underlying3
 a3:=Proofs.Tryz.isAgg3
 z3:=Proofs.Tryz.sizeOf3
 v3:=Proofs.Tryz.zeroValue3
 t4:=Proofs.Tryz.underlying4
 a4:=Proofs.Tryz.isAgg4
 z4:=Proofs.Tryz.sizeOf4
 v4:=Proofs.Tryz.zeroValue4
 t5:=Proofs.Tryz.underlying5
 a5:=Proofs.Tryz.isAgg5
 z5:=Proofs.Tryz.sizeOf5
 v5:=Proofs.Tryz.zeroValue5
 t9:=Proofs.Tryz.underlying9
 a9:=Proofs.Tryz.isAgg9
 z9:=Proofs.Tryz.sizeOf9
 v9:=Proofs.Tryz.zeroValue9
 t22:=Proofs.Tryz.underlying27
 a22:=Proofs.Tryz.isAgg27
 z22:=Proofs.Tryz.sizeOf27
 v22:=Proofs.Tryz.zeroValue27
 a24:=Proofs.Tryz.isAgg2
 z24:=Proofs.Tryz.sizeOf2
 t25:=Proofs.Tryz.underlying132
 a25:=Proofs.Tryz.isAgg132
 z25:=Proofs.Tryz.sizeOf132
 v25:=Proofs.Tryz.zeroValue132
 t39:=Proofs.Tryz.underlying164
 a39:=Proofs.Tryz.isAgg164
 z39:=Proofs.Tryz.sizeOf164
 v39:=Proofs.Tryz.zeroValue164
 t45:=Proofs.Tryz.underlying218
 a45:=Proofs.Tryz.isAgg218
 z45:=Proofs.Tryz.sizeOf218
 v45:=Proofs.Tryz.zeroValue218
 t46:=Proofs.Tryz.underlying219
 a46:=Proofs.Tryz.isAgg219
 z46:=Proofs.Tryz.sizeOf219
 v46:=Proofs.Tryz.zeroValue219
 t50:=Proofs.Tryz.underlying223
 a50:=Proofs.Tryz.isAgg223
 z50:=Proofs.Tryz.sizeOf223
 v50:=Proofs.Tryz.zeroValue223
 t53:=Proofs.Tryz.underlying226
 a53:=Proofs.Tryz.isAgg226
 z53:=Proofs.Tryz.sizeOf226
 v53:=Proofs.Tryz.zeroValue226
 t55:=Proofs.Tryz.underlying228
 a55:=Proofs.Tryz.isAgg228
 z55:=Proofs.Tryz.sizeOf228
 v55:=Proofs.Tryz.zeroValue228
 t66:=Proofs.Tryz.underlying264
 a66:=Proofs.Tryz.isAgg264
 z66:=Proofs.Tryz.sizeOf264
 v66:=Proofs.Tryz.zeroValue264
 t70:=Proofs.Tryz.underlying268
 a70:=Proofs.Tryz.isAgg268
 z70:=Proofs.Tryz.sizeOf268
 v70:=Proofs.Tryz.zeroValue268
 t76:=Proofs.Tryz.underlying282
 a76:=Proofs.Tryz.isAgg282
 z76:=Proofs.Tryz.sizeOf282
 v76:=Proofs.Tryz.zeroValue282
 t77:=Proofs.Tryz.underlying283
 a77:=Proofs.Tryz.isAgg283
 z77:=Proofs.Tryz.sizeOf283
 v77:=Proofs.Tryz.zeroValue283 }
end Go.Vai
set_option linter.unusedSimpArgs false
namespace Go.Vai
def oneI' (n:Int):List IV:=[.int .i64 n]
theorem PM_of_sort {E:Env} {f g:FuncId} {cap:List IV} {l l':List Int} (hg:goesB E.P f = true) (hl:l'.length = l.length)
  (h0:l = [] → ∀ (a:Option Addr) (c:Nat) (cb:Array Value) (w:World),Calls E.P f #[.slice a 0 c,.func (.func g) #[] cb] w fun e w'=>e = .returned (.tuple #[]) ∧ Below w.heap.size w w')
  (h:∀ (F:Nat → Prop) (w:World) (blk off c:Nat) (cs:Array Value) (ty:TypeId) (cb:Array Value),l ≠ [] → GRep E F w → (∀ b,F b → b < w.heap.size) → ¬ F blk → w.heap[blk]? = some (.cells cs ty (0,0)) → (∀ (j:Nat) (hj:j < l.length),cs[off + j]? = some (.int .i64 l[j])) → Rep F w (.fn g cap) (.func (.func g) #[] cb) →
   Calls E.P f #[.slice (some ⟨blk,off,none⟩) l.length c,.func (.func g) #[] cb] w fun e w'=>e = .returned (.tuple #[]) ∧ w'.os = w.os ∧ w'.tape = w.tape ∧ w'.output = w.output ∧ w.heap.size ≤ w'.heap.size ∧ w.drawn ≤ w'.drawn ∧ (∀ b,b < w.heap.size → b ≠ blk → w'.heap[b]? = w.heap[b]?) ∧
    ∃ cs',w'.heap[blk]? = some (.cells cs' ty (0,0)) ∧ cs'.size = cs.size ∧ ∀ (j:Nat) (hj:j < l'.length),cs'[off + j]? = some (.int .i64 l'[j])) :
  PM E f [.sl ⟨1,l.map oneI'⟩,.i (.i (.fn g cap))] [⟨1,l'.map oneI'⟩] []:=by
 refine ⟨hg,fun i ob ob' h1 h2=>?_,fun F ρ w cargs hG hlt hsz hrep hH hdom=>?_⟩
 ·simp only [maH,ma2,maO,look_cons,look_nil,List.append_nil,List.cons_append,List.nil_append] at h1 h2
  split at h1
  ·rename_i e
   rw [if_pos e] at h2
   obtain rfl:=Option.some.inj h1
   obtain rfl:=Option.some.inj h2
   simp [hl]
  ·simp at h1
 obtain ⟨c0,c1,rfl⟩:∃ c0 c1,cargs = #[c0,c1]:=by
  have hs2:cargs.size = 2:=hsz
  refine ⟨cargs[0],cargs[1],Array.ext (by simp [hs2]) fun j h1 h2=>?_⟩
  match j,h2 with
  | 0,_=>rfl
  | 1,_=>rfl
 have r0:RepA F ρ w (.own 700000 0 l.length) c0:=by simpa [maA,ma1] using hrep 0 (.own 700000 0 (l.map oneI').length) c0 rfl rfl
 have r1:RepA F ρ w (.i (.fn g cap)) c1:=hrep 1 _ c1 rfl rfl
 have hH0:look (maH 0 [.sl ⟨1,l.map oneI'⟩,.i (.i (.fn g cap))]) 700000 = some ⟨1,l.map oneI'⟩:=by simp [maH,ma2,look_cons]
 have hO:∀ o ob,look (maO 0 [.sl ⟨1,l.map oneI'⟩,.i (.i (.fn g cap))] [⟨1,l'.map oneI'⟩]) o = some ob → o = 700000 ∧ ob = ⟨1,l'.map oneI'⟩:=fun o ob ho=>by
  simp only [maO,look_cons,look_nil] at ho
  split at ho
  ·rename_i e
   exact ⟨by omega,(Option.some.inj ho).symm⟩
  ·simp at ho
 cases r1 with | i _ _ h1=>cases h1 with | fn _ _ cb hs hr =>
 have hfn:Rep F w (.fn g cap) (.func (.func g) #[] cb):=.fn g cap cb hs hr
 by_cases hn:l = []
 ·have hn':l' = []:=List.eq_nil_of_length_eq_zero (by rw [hl,hn]; rfl)
  obtain ⟨a,c,rfl⟩:∃ a c,c0 = .slice a 0 c:=by
   rw [hn] at r0
   cases r0 with
   | own _ _ _ c L ho hm hlc hN=>exact ⟨_,_,rfl⟩
   | ownE _ _ a=>exact ⟨_,_,rfl⟩
  refine (h0 hn a c cb w).mono fun e w' ⟨he,hb⟩=>⟨[],F,fun _=>none,_,he,rfl,⟨hb.os,hb.tape,hb.output,hb.size,fun k hk=>hb.block k (Base.not_mine hk),hb.drawn⟩,fun _ h=>h,fun _ h=>.inl h,fun b hb'=>Nat.lt_of_lt_of_le (hlt b hb') hb.size,⟨rfl,fun k r v hk=>by simp at hk,fun k k' L L' hk=>by simp at hk⟩,fun o ob L ho hL=>?_⟩
  obtain ⟨rfl,rfl⟩:=hO o ob ho
  obtain ⟨q1,-,q3⟩:=hH.obj 700000 _ L hH0 hL
  obtain ⟨p1,p2,p3,p4,cs,ty,p5,p6,p7⟩:=q1
  subst hn hn'
  have hbl:L.b < w.heap.size:=(Array.getElem?_eq_some_iff.1 p5).1
  exact ⟨⟨p1,p2,p3,p4,cs,ty,(hb.block _ hbl).trans p5,p6,fun e el j x he hx=>by simp at he⟩,q3⟩
 ·generalize hlen:l.length = len at r0
  cases r0 with
  | ownE _ _ a=>exact absurd (List.eq_nil_of_length_eq_zero hlen) hn
  | own _ _ _ c L ho hm hlc hN =>
   subst hlen
   obtain ⟨q1,-,q3⟩:=hH.obj 700000 _ L hH0 ho
   obtain ⟨p1,p2,p3,p4,cs,ty,p5,p6,p7⟩:=q1
   have hs1:L.sz = 1:=p1
   have hbl:L.b < w.heap.size:=(Array.getElem?_eq_some_iff.1 p5).1
   have hcell:∀ (j:Nat) (hj:j < l.length),cs[L.base + 0 * L.sz + j]? = some (.int .i64 l[j]):=fun j hj=>by
    obtain ⟨v,hv,hrv⟩:=p7 j (oneI' l[j]) 0 (.int .i64 l[j]) (by simp [hj]) rfl
    cases hrv with | int _ _ =>
    rw [hs1] at hv
    rw [show L.base + 0 * L.sz + j = L.base + j * 1 + 0 by omega]; exact hv
   refine (h F w L.b (L.base + 0 * L.sz) c cs ty cb hn hG hlt q3 p5 hcell hfn).mono fun e w' ⟨he,k1,k2,k3,k4,k5,k6,cs',k7,k8,k9⟩=>⟨[],F,fun _=>none,_,he,rfl,⟨k1,k2,k3,k4,fun k hk=>?_,k5⟩,fun _ h=>h,fun _ h=>.inl h,fun b hb'=>Nat.lt_of_lt_of_le (hlt b hb') k4,⟨rfl,fun k r v hk=>by simp at hk,fun k k' L L' hk=>by simp at hk⟩,fun o ob L' ho' hL=>?_⟩
   ·exact k6 k (Base.not_mine hk) fun e=>hk (.inr ⟨700000,_,L,hH0,ho,e.symm⟩)
   ·obtain ⟨rfl,rfl⟩:=hO o ob ho'
    obtain rfl:=Option.some.inj (ho.symm.trans hL)
    refine ⟨⟨p1,by simpa [hl] using p2,fun el hel=>?_,by simpa [hl] using p4,cs',ty,k7,k8.trans p6,fun e el j x he hx=>?_⟩,q3⟩
    ·obtain ⟨a,-,rfl⟩:=List.mem_map.1 hel; rfl
    ·rw [List.getElem?_map,Option.map_eq_some_iff] at he
     obtain ⟨a,ha,rfl⟩:=he
     obtain ⟨hj,rfl⟩:=List.getElem?_eq_some_iff.1 ha
     have hj0:j = 0:=by
      have:=(List.getElem?_eq_some_iff.1 hx).1
      simp [oneI'] at this; exact this
     subst hj0
     obtain rfl:=Option.some.inj hx
     refine ⟨_, ?_,.int _ _⟩
     rw [show L.base + e * L.sz + 0 = L.base + 0 * L.sz + e by rw [hs1]; omega]
     exact k9 e hj
theorem Below.grows {w w':World} (h:Below w.heap.size w w'):∃ (q:Nat) (os:Array _root_.Go.Obj),w' = Go.Sort.grow (Go.Sort.ahead w q) os:=by
 refine ⟨w'.drawn - w.drawn,w'.heap.extract w.heap.size w'.heap.size, ?_⟩
 obtain ⟨h1,h2,h3,h4,h5,h6⟩:=h
 obtain ⟨hp,tp,dr,o,out⟩:=w'
 obtain ⟨hp0,tp0,dr0,o0,out0⟩:=w
 simp only at h1 h2 h3 h4 h5 h6
 subst h1 h2 h3
 simp only [Go.Sort.grow,Go.Sort.ahead,World.mk.injEq]
 refine ⟨?_,trivial,by omega,trivial,trivial⟩
 refine Array.ext_getElem? fun i=>?_
 by_cases hi:i < hp0.size
 ·rw [h5 i hi,Array.getElem?_append_left hi]
 ·rw [Array.getElem?_append_right (by omega),Array.getElem?_extract]
  by_cases hi2:i < hp.size
  ·rw [if_pos (by omega),show hp0.size + (i - hp0.size) = i by omega]
  ·rw [if_neg (by omega),Array.getElem?_eq_none (by omega)]
theorem repR_int {F:Nat → Prop} {B:Nat} {w:World} {l:Option Loc} {v:Value} {r:Int} (h:RepR F B w l (.i (.int .i64 r)) v):v = .int .i64 r:=by
 cases h with
 | i l x v h=>cases h; rfl
theorem cmp_of_PC {E:Env} {g:FuncId} {cap:List IV} {x y r:Int} (hpc:PC E g ([.i (.int .i64 x),.i (.int .i64 y)] ++ cap.map .i) [.i (.int .i64 r)]) {F:Nat → Prop} {w:World} (hG:GRep E F w) (hlt:∀ b,F b → b < w.heap.size) {cb:Array Value}
  (hfn:Rep F w (.fn g cap) (.func (.func g) #[] cb)) {w1:World} (hs:w.heap.size ≤ w1.heap.size) (hw:∀ b,F b → w1.heap[b]? = w.heap[b]?) :
  Calls E.P g (#[.int .i64 x,.int .i64 y] ++ cb) w1 fun e w'=>e = .returned (.int .i64 r) ∧ Below w1.heap.size w1 w':=by
 cases hfn with | fn _ _ _ hsz hr =>
 refine (hpc.run F w1 _ (hG.mono (fun _ h=>h) hw) (fun b hb=>Nat.lt_of_lt_of_le (hlt b hb) hs) (by simp [hsz]; omega) (fun j u v hu hv=>?_)).mono fun e w' ⟨vs,F',ls,he,hb,_,_,_,hrep⟩=>?_
 ·match j,hu,hv with
  | 0,hu,hv =>
   obtain rfl:=Option.some.inj hu
   rw [Array.getElem?_append_left (by simp)] at hv
   obtain rfl:=Option.some.inj hv
   exact .i _ _ (.int _ _)
  | 1,hu,hv =>
   obtain rfl:=Option.some.inj hu
   rw [Array.getElem?_append_left (by simp)] at hv
   obtain rfl:=Option.some.inj hv
   exact .i _ _ (.int _ _)
  | j + 2,hu,hv =>
   simp only [List.cons_append,List.nil_append,List.getElem?_cons_succ,List.getElem?_map,Option.map_eq_some_iff] at hu
   obtain ⟨z,hz,rfl⟩:=hu
   rw [Array.getElem?_append_right (by simp)] at hv
   exact .i _ _ ((hr j z v hz (by simpa using hv)).mono (fun _ h=>h) hw)
 ·refine ⟨?_,hb⟩
  subst he
  have hl:=hrep.len
  match vs,hl with
  | [v],_ =>
   rw [show v = .int .i64 r from repR_int (hrep.rep 0 _ v rfl rfl)]; rfl
end Go.Vai
namespace Go.Vai
theorem sorted_row {α:Type} [Inhabited α] {enc:α → Value} {w w':World} {blk off n:Nat} {d:Array α} {os:Array _root_.Go.Obj} {cs:Array Value} {ty:TypeId} (hb:w.heap[blk]? = some (.cells cs ty (0,0))) (hfit:off + d.size ≤ cs.size)
  (he:w' = Go.Sort.grow (Go.Sort.putRow enc (Go.Sort.ahead w n) blk off d) os) :
  w'.os = w.os ∧ w'.tape = w.tape ∧ w'.output = w.output ∧ w.heap.size ≤ w'.heap.size ∧ w.drawn ≤ w'.drawn ∧ (∀ b,b < w.heap.size → b ≠ blk → w'.heap[b]? = w.heap[b]?) ∧
   ∃ cs',w'.heap[blk]? = some (.cells cs' ty (0,0)) ∧ cs'.size = cs.size ∧ ∀ (j:Nat) (hj:j < d.size),cs'[off + j]? = some (enc d[j]):=by
 subst he
 have hg:blk < w.heap.size:=(Array.getElem?_eq_some_iff.1 hb).1
 refine ⟨rfl,rfl,rfl,by simp [Go.Sort.grow,Go.Sort.putRow,Go.Sort.mapBlock,Go.Sort.ahead],Nat.le_add_right _ _,fun b h1 h2=>?_,Go.Sort.putCells enc off d cs, ?_,by simp [Go.Sort.putCells],fun j hj=>?_⟩
 ·rw [Go.Sort.heap_grow_old _ _ (by simpa using h1)]
  simp only [Go.Sort.putRow,Go.Sort.mapBlock,Go.Sort.ahead,Array.getElem?_modify]
  rw [if_neg (fun e=>h2 e.symm)]
 ·rw [Go.Sort.heap_grow_old _ _ (by simpa using hg)]
  simp [Go.Sort.putRow,Go.Sort.mapBlock,Go.Sort.ahead,Array.getElem?_modify,hb,Go.Sort.onCells]
 ·have hlt:off + j < cs.size:=by omega
  simp [Go.Sort.putCells,hlt,hj]
theorem sorted_list {α:Type} [Inhabited α] {lt:α → α → Bool} {d d':Array α} (hp:Go.Sort.PermIn 0 d.size d d') (hs:Go.Sort.SortedIn lt 0 d.size d'):d'.size = d.size ∧ d'.toList.Perm d.toList ∧ d'.toList.Pairwise fun a b=>lt b a = false:=by
 obtain ⟨h1,-,h3⟩:=hp
 refine ⟨h1, ?_, ?_⟩
 ·rw [Array.extract_size] at h3
  rw [← h1,Array.extract_size] at h3
  exact h3
 ·rw [List.pairwise_iff_getElem]
  intro i j hi hj hij
  have hi':i < d'.size:=by simpa using hi
  have hj':j < d'.size:=by simpa using hj
  have:=hs i j (Nat.zero_le _) hij (by omega)
  rw [getElem!_pos d' i hi',getElem!_pos d' j hj'] at this
  simpa using this
end Go.Vai
namespace Go.Vai
theorem cmpI_neg (x y:Int):cmpI x y < 0 ↔ x < y:=by
 unfold cmpI
 by_cases h1:x < y
 ·simp [h1]
 ·by_cases h2:y < x <;> simp [h1,h2]
theorem PM_sort {E:Env} {ρ:Go.Shelf.Ren} (L:Proofs.SlLaysF.n6 E.P ρ) {f:FuncId} (hf:f = ρ.f 6) (hg:goesB E.P f = true) {g:FuncId} {cap:List IV} (key:Int → Int) {l l':List Int} (hne0:l ≠ []) (hln:l.length < 4611686018427387904)
  (eg:∀ args w,(callFunc g args).run E.P w = .ok (.enter g args) w)
  (hc:∀ x ∈ l,∀ y ∈ l,PC E g ([.i (.int .i64 x),.i (.int .i64 y)] ++ cap.map .i) [.i (.int .i64 (cmpI (key x) (key y)))])
  (hl:l'.length = l.length) (hu:∀ m:List Int,m.Perm l → m.Pairwise (fun a b=>¬ key b < key a) → m = l') :
  PM E f [.sl ⟨1,l.map oneI'⟩,.i (.i (.fn g cap))] [⟨1,l'.map oneI'⟩] []:=by
 subst hf
 refine PM_of_sort hg hl (fun h0 a c cb w=>?_) (fun F w blk off c cs ty cb hne hG hlt hblk hcells hv hfn=>?_)
 ·exact absurd h0 hne0
 ·have hl0:0 < l.length:=List.length_pos_iff.2 hne
  let α:={ x:Int // x ∈ l }
  letI:Inhabited α:=⟨⟨l[0],List.getElem_mem hl0⟩⟩
  let enc:α → Value:=fun x=>.int .i64 x.1
  let d:Array α:=l.attach.toArray
  have hds:d.size = l.length:=by
   show l.attach.toArray.size = _
   rw [List.size_toArray]
   exact List.length_attach
  have hdi:∀ (j:Nat) (hj:j < d.size),(d[j]!).1 = l[j]'(by omega):=fun j hj=>by
   rw [getElem!_pos d j hj]
   show (l.attach.toArray[j]).1 = _
   rw [List.getElem_toArray]
   exact congrArg Subtype.val (List.getElem_attach ..)
  have hsz:w.heap[blk]? ≠ none:=by rw [hcells]; simp
  have hbl:blk < w.heap.size:=(Array.getElem?_eq_some_iff.1 hcells).1
  have hfit:off + d.size ≤ cs.size:=by
   have:=hv (l.length - 1) (by omega)
   have:=(Array.getElem?_eq_some_iff.1 this).1
   omega
  have hH:Sort.Holds enc w blk off d:=fun j hj=>by
   refine ⟨?_, ?_⟩
   ·show w.cell? _ = some (.int .i64 (d[j]!).1)
    rw [hdi j hj]
    simp only [World.cell?,hcells]
    exact hv j (by omega)
   ·simp [World.frozen?,hcells]
  let cf:α → α → Int:=fun x y=>cmpI (key x.1) (key y.1)
  have hlt':∀ x y,Proofs.ltOf cf x y = decide (key x.1 < key y.1):=fun x y=>decide_eq_decide.2 (cmpI_neg _ _)
  have hO:Sort.SWO (Proofs.ltOf cf):=by
   refine ⟨fun x=>?_,fun x y z h1 h2=>?_,fun x y z h1 h2=>?_⟩
   ·rw [hlt']; simp
   ·rw [hlt',decide_eq_true_eq] at *; omega
   ·rw [hlt',decide_eq_false_iff_not] at *; omega
  have hcmp:Proofs.CmpLays1 E.P g cb enc cf blk off d.size w:=fun m os dk hs x y=>by
   have hw1:w.heap.size ≤ (Proofs.sortWorld enc w blk off m dk os).heap.size:=by
    simp [Proofs.sortWorld,Go.Sort.grow,Go.Sort.putRow,Go.Sort.mapBlock,Go.Sort.ahead]
   have hw2:∀ b,F b → (Proofs.sortWorld enc w blk off m dk os).heap[b]? = w.heap[b]?:=fun b hb=>by
    have hb1:=hlt b hb
    have hb2:b ≠ blk:=fun e=>hblk (e ▸ hb)
    unfold Proofs.sortWorld
    rw [Go.Sort.heap_grow_old _ _ (by simpa using hb1)]
    simp only [Go.Sort.putRow,Go.Sort.mapBlock,Go.Sort.ahead,Array.getElem?_modify]
    rw [if_neg (fun e=>hb2 e.symm)]
   exact (cmp_of_PC (hc x.1 x.2 y.1 y.2) hG hlt hfn hw1 hw2).mono fun e w' ⟨he,hb⟩=>⟨he,hb.grows⟩
  have hS:=Proofs.Any.slices_SortFunc L enc (fun _=>rfl) cf hO g cb blk off c d w eg hcmp hH hbl (by omega)
  rw [hds] at hS
  refine hS.mono fun e w' ⟨he,d',n,os,hp,hs,hw⟩=>?_
  rw [← hds] at hp hs
  obtain ⟨q1,q2,q3⟩:=sorted_list hp hs
  have hm:d'.toList.map (·.1) = l':=by
   refine hu _ ?_ ?_
   ·have:=q2.map (fun x:α=>x.1)
    have e:(d.toList.map fun x:α=>x.1) = l:=List.attach_map_subtype_val l
    rw [e] at this
    exact this
   ·rw [List.pairwise_map]
    exact q3.imp fun {a b} h=>by rw [hlt',decide_eq_false_iff_not] at h; exact h
  have hfit':off + d'.size ≤ cs.size:=by omega
  obtain ⟨k1,k2,k3,k4,k5,k6,cs',k7,k8,k9⟩:=sorted_row hcells hfit' hw
  refine ⟨he,k1,k2,k3,k4,k5,k6,cs',k7,k8,fun j hj=>?_⟩
  have hj':j < d'.size:=by omega
  rw [k9 j hj']
  show some (Value.int .i64 (d'[j]).1) = _
  congr 2
  subst hm
  simp
end Go.Vai
