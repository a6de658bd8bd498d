/- Texts of this claim: ZvT, Zw32. -/
import Derived.Test.YtiipeibaiphmpaaGreatDoorTvE
import Derived.Shelf.SlLaysF0
import Derived.Test.YtiipeibaiphmpaaGreatDoorTb62
import Derived.Shelf.SlSortCmp.NoneTotal
set_option linter.unusedVariables false
set_option maxHeartbeats 4000000
set_option maxRecDepth 100000
namespace Go.Vai
def sortP_ren:Go.Shelf.Ren:=⟨fun | 6=>77 | 14=>149 | 15=>150 | 20=>216 | 21=>217 | 22=>218 | 23=>219 | 24=>220 | 25=>221 | 26=>222 | 27=>223 | 28=>224 | 29=>225 | 46=>266 | 47=>267 | 48=>268 | 49=>269 | 50=>270 | 57=>291 | n=>n,fun | 0=>0 | 3=>3 | 4=>4 | 5=>5 | 9=>9 | 22=>29 | 24=>85 | 25=>105 | 39=>164 | 45=>218 | 46=>219 | 50=>223 | 53=>226 | 55=>228 | 66=>264 | 70=>268 | 76=>282 | 77=>283 | n=>n,fun n=>n⟩
theorem sortP:Proofs.SlLaysF0.n6 Proofs.Tryz.prog sortP_ren:={
 mixed:=by kernel_rfl
 f6:=⟨Proofs.Tryz.f77.name,by decide,Proofs.Tryz.func77.trans (congrArg some (by kernel_rfl))⟩
 f14:=⟨Proofs.Tryz.f149.name,by decide,Proofs.Tryz.func149.trans (congrArg some (by kernel_rfl))⟩
 f15:=Proofs.Tryz.func150.trans (congrArg some (by kernel_rfl))
 f20:=⟨Proofs.Tryz.f216.name,by decide,Proofs.Tryz.func216.trans (congrArg some (by kernel_rfl))⟩
 f21:=⟨Proofs.Tryz.f217.name,by decide,Proofs.Tryz.func217.trans (congrArg some (by kernel_rfl))⟩
 f22:=⟨Proofs.Tryz.f218.name,by decide,Proofs.Tryz.func218.trans (congrArg some (by kernel_rfl))⟩
 f23:=⟨Proofs.Tryz.f219.name,by decide,Proofs.Tryz.func219.trans (congrArg some (by kernel_rfl))⟩
 f24:=⟨Proofs.Tryz.f220.name,by decide,Proofs.Tryz.func220.trans (congrArg some (by kernel_rfl))⟩
 f25:=⟨Proofs.Tryz.f221.name,by decide,Proofs.Tryz.func221.trans (congrArg some (by kernel_rfl))⟩
 f26:=⟨Proofs.Tryz.f222.name,by decide,Proofs.Tryz.func222.trans (congrArg some (by kernel_rfl))⟩
 f27:=⟨Proofs.Tryz.f223.name,by decide,Proofs.Tryz.func223.trans (congrArg some (by kernel_rfl))⟩
 f28:=Proofs.Tryz.func224.trans (congrArg some (by kernel_rfl))
 f29:=Proofs.Tryz.func225.trans (congrArg some (by kernel_rfl))
 f46:=⟨Proofs.Tryz.f266.name,by decide,Proofs.Tryz.func266.trans (congrArg some (by kernel_rfl))⟩
 f47:=Proofs.Tryz.func267.trans (congrArg some (by kernel_rfl))
 f48:=Proofs.Tryz.func268.trans (congrArg some (by kernel_rfl))
 f49:=⟨Proofs.Tryz.f269.name,by decide,Proofs.Tryz.func269.trans (congrArg some (by kernel_rfl))⟩
 f50:=⟨Proofs.Tryz.f270.name,by decide,Proofs.Tryz.func270.trans (congrArg some (by kernel_rfl))⟩
 f57:=⟨Proofs.Tryz.f291.name,by decide,Proofs.Tryz.func291.trans (congrArg some (by kernel_rfl))⟩
 t0:=Proofs.Tryz.underlying0
 a0:=Proofs.Tryz.isAgg0
 z0:=Proofs.Tryz.sizeOf0
 v0:=Proofs.Tryz.zeroValue0
 t3:=Proofs.Tryz.underlying3
 a3:=Proofs.Tryz.isAgg3
 z3:=Proofs.Tryz.sizeOf3
 v3:=Proofs.Tryz.zeroValue3
 t4:=Proofs.Tryz.underlying4
 a4:=Proofs.Tryz.isAgg4
 z4:=Proofs.Tryz.sizeOf4
 v4:=Proofs.Tryz.zeroValue4
 t5:=Proofs.Tryz.underlying5
 a5:=Proofs.Tryz.isAgg5
 z5:=Proofs.Tryz.sizeOf5
 v5:=Proofs.Tryz.zeroValue5
 t9:=Proofs.Tryz.underlying9
 a9:=Proofs.Tryz.isAgg9
 z9:=Proofs.Tryz.sizeOf9
 v9:=Proofs.Tryz.zeroValue9
 t22:=Proofs.Tryz.underlying29
 a22:=Proofs.Tryz.isAgg29
 z22:=Proofs.Tryz.sizeOf29
 v22:=Proofs.Tryz.zeroValue29
 t25:=Proofs.Tryz.underlying105
 a25:=Proofs.Tryz.isAgg105
 z25:=Proofs.Tryz.sizeOf105
 v25:=Proofs.Tryz.zeroValue105
 t39:=Proofs.Tryz.underlying164
 a39:=Proofs.Tryz.isAgg164
 z39:=Proofs.Tryz.sizeOf164
 v39:=Proofs.Tryz.zeroValue164
 t45:=Proofs.Tryz.underlying218
 a45:=Proofs.Tryz.isAgg218
 z45:=Proofs.Tryz.sizeOf218
 v45:=Proofs.Tryz.zeroValue218
 t46:=Proofs.Tryz.underlying219
 a46:=Proofs.Tryz.isAgg219
 z46:=Proofs.Tryz.sizeOf219
 v46:=Proofs.Tryz.zeroValue219
 t50:=Proofs.Tryz.underlying223
 a50:=Proofs.Tryz.isAgg223
 z50:=Proofs.Tryz.sizeOf223
 v50:=Proofs.Tryz.zeroValue223
 t53:=Proofs.Tryz.underlying226
 a53:=Proofs.Tryz.isAgg226
 z53:=Proofs.Tryz.sizeOf226
 v53:=Proofs.Tryz.zeroValue226
 t55:=Proofs.Tryz.underlying228
 a55:=Proofs.Tryz.isAgg228
 z55:=Proofs.Tryz.sizeOf228
 v55:=Proofs.Tryz.zeroValue228
 t66:=Proofs.Tryz.underlying264
 a66:=Proofs.Tryz.isAgg264
 z66:=Proofs.Tryz.sizeOf264
 v66:=Proofs.Tryz.zeroValue264
 t70:=Proofs.Tryz.underlying268
 a70:=Proofs.Tryz.isAgg268
 z70:=Proofs.Tryz.sizeOf268
 v70:=Proofs.Tryz.zeroValue268
 t76:=Proofs.Tryz.underlying282
 a76:=Proofs.Tryz.isAgg282
 z76:=Proofs.Tryz.sizeOf282
 v76:=Proofs.Tryz.zeroValue282
 t77:=Proofs.Tryz.underlying283
 a77:=Proofs.Tryz.isAgg283
 z77:=Proofs.Tryz.sizeOf283
 v77:=Proofs.Tryz.zeroValue283 }
end Go.Vai
set_option linter.unusedSimpArgs false
namespace Go.Vai
theorem PM_of_sortK {E:Env} {f g:FuncId} {cap:List IV} {α:Type} {k:Nat} (q:α → List Int) (hq:∀ x,(q x).length = k) {iv:α → List IV} (hiv:∀ x,iv x = (q x).map (.int .i64 ·)) {l l':List α} (hg:goesB E.P f = true) (hl:l'.length = l.length)
  (h0:l = [] → ∀ (a:Option Addr) (c:Nat) (cb:Array Value) (w:World),Calls E.P f #[.slice a 0 c,.func (.func g) #[] cb] w fun e w'=>e = .returned (.tuple #[]) ∧ Below w.heap.size w w')
  (h:∀ (F:Nat → Prop) (w:World) (blk off c:Nat) (cs:Array Value) (ty:TypeId) (cb:Array Value),l ≠ [] → GRep E F w → (∀ b,F b → b < w.heap.size) → ¬ F blk → w.heap[blk]? = some (.cells cs ty (0,0)) → (∀ (i:Nat) (hi:i < l.length) (j:Nat) (n:Int),(q l[i])[j]? = some n → cs[off + i * k + j]? = some (.int .i64 n)) → (off + l.length * k ≤ cs.size) → Rep F w (.fn g cap) (.func (.func g) #[] cb) →
   Calls E.P f #[.slice (some ⟨blk,off,none⟩) l.length c,.func (.func g) #[] cb] w fun e w'=>e = .returned (.tuple #[]) ∧ w'.os = w.os ∧ w'.tape = w.tape ∧ w'.output = w.output ∧ w.heap.size ≤ w'.heap.size ∧ w.drawn ≤ w'.drawn ∧ (∀ b,b < w.heap.size → b ≠ blk → w'.heap[b]? = w.heap[b]?) ∧
    ∃ cs',w'.heap[blk]? = some (.cells cs' ty (0,0)) ∧ cs'.size = cs.size ∧ ∀ (i:Nat) (hi:i < l'.length) (j:Nat) (n:Int),(q l'[i])[j]? = some n → cs'[off + i * k + j]? = some (.int .i64 n)) :
  PM E f [.sl ⟨k,l.map iv⟩,.i (.i (.fn g cap))] [⟨k,l'.map iv⟩] []:=by
 refine ⟨hg,fun i ob ob' h1 h2=>?_,fun F ρ w cargs hG hlt hsz hrep hH hdom=>?_⟩
 ·simp only [maH,ma2,maO,look_cons,look_nil,List.append_nil,List.cons_append,List.nil_append] at h1 h2
  split at h1
  ·rename_i e
   rw [if_pos e] at h2
   obtain rfl:=Option.some.inj h1
   obtain rfl:=Option.some.inj h2
   simp [hl]
  ·simp at h1
 obtain ⟨c0,c1,rfl⟩:∃ c0 c1,cargs = #[c0,c1]:=by
  have hs2:cargs.size = 2:=hsz
  refine ⟨cargs[0],cargs[1],Array.ext (by simp [hs2]) fun j h1 h2=>?_⟩
  match j,h2 with
  | 0,_=>rfl
  | 1,_=>rfl
 have r0:RepA F ρ w (.own 700000 0 l.length) c0:=by simpa [maA,ma1] using hrep 0 (.own 700000 0 (l.map iv).length) c0 rfl rfl
 have r1:RepA F ρ w (.i (.fn g cap)) c1:=hrep 1 _ c1 rfl rfl
 have hH0:look (maH 0 [.sl ⟨k,l.map iv⟩,.i (.i (.fn g cap))]) 700000 = some ⟨k,l.map iv⟩:=by simp [maH,ma2,look_cons]
 have hO:∀ o ob,look (maO 0 [.sl ⟨k,l.map iv⟩,.i (.i (.fn g cap))] [⟨k,l'.map iv⟩]) o = some ob → o = 700000 ∧ ob = ⟨k,l'.map iv⟩:=fun o ob ho=>by
  simp only [maO,look_cons,look_nil] at ho
  split at ho
  ·rename_i e
   exact ⟨by omega,(Option.some.inj ho).symm⟩
  ·simp at ho
 cases r1 with | i _ _ h1=>cases h1 with | fn _ _ cb hs hr =>
 have hfn:Rep F w (.fn g cap) (.func (.func g) #[] cb):=.fn g cap cb hs hr
 by_cases hn:l = []
 ·have hn':l' = []:=List.eq_nil_of_length_eq_zero (by rw [hl,hn]; rfl)
  obtain ⟨a,c,rfl⟩:∃ a c,c0 = .slice a 0 c:=by
   rw [hn] at r0
   cases r0 with
   | own _ _ _ c L ho hm hlc hN=>exact ⟨_,_,rfl⟩
   | ownE _ _ a=>exact ⟨_,_,rfl⟩
  refine (h0 hn a c cb w).mono fun e w' ⟨he,hb⟩=>⟨[],F,fun _=>none,_,he,rfl,⟨hb.os,hb.tape,hb.output,hb.size,fun k hk=>hb.block k (Base.not_mine hk),hb.drawn⟩,fun _ h=>h,fun _ h=>.inl h,fun b hb'=>Nat.lt_of_lt_of_le (hlt b hb') hb.size,⟨rfl,fun k r v hk=>by simp at hk,fun k k' L L' hk=>by simp at hk⟩,fun o ob L ho hL=>?_⟩
  obtain ⟨rfl,rfl⟩:=hO o ob ho
  obtain ⟨q1,-,q3⟩:=hH.obj 700000 _ L hH0 hL
  obtain ⟨p1,p2,p3,p4,cs,ty,p5,p6,p7⟩:=q1
  subst hn hn'
  have hbl:L.b < w.heap.size:=(Array.getElem?_eq_some_iff.1 p5).1
  exact ⟨⟨p1,p2,p3,p4,cs,ty,(hb.block _ hbl).trans p5,p6,fun e el j x he hx=>by simp at he⟩,q3⟩
 ·generalize hlen:l.length = len at r0
  cases r0 with
  | ownE _ _ a=>exact absurd (List.eq_nil_of_length_eq_zero hlen) hn
  | own _ _ _ c L ho hm hlc hN =>
   subst hlen
   obtain ⟨q1,-,q3⟩:=hH.obj 700000 _ L hH0 ho
   obtain ⟨p1,p2,p3,p4,cs,ty,p5,p6,p7⟩:=q1
   have hs1:L.sz = k:=p1
   have hbl:L.b < w.heap.size:=(Array.getElem?_eq_some_iff.1 p5).1
   have hcell:∀ (i:Nat) (hi:i < l.length) (j:Nat) (n:Int),(q l[i])[j]? = some n → cs[L.base + 0 * L.sz + i * k + j]? = some (.int .i64 n):=fun i hi j n hj=>by
    obtain ⟨v,hv,hrv⟩:=p7 i (iv l[i]) j (.int .i64 n) (by simp [hi]) (by rw [hiv,List.getElem?_map,hj]; rfl)
    cases hrv with | int _ _ =>
    rw [hs1] at hv
    rw [show L.base + 0 * L.sz + i * k + j = L.base + i * k + j by omega]; exact hv
   have p4':L.base + 0 * L.sz + l.length * k ≤ cs.size:=by
    rw [p6]
    have:L.base + (l.map iv).length * k ≤ L.N:=p4
    simpa using this
   refine (h F w L.b (L.base + 0 * L.sz) c cs ty cb hn hG hlt q3 p5 hcell p4' hfn).mono fun e w' ⟨he,k1,k2,k3,k4,k5,k6,cs',k7,k8,k9⟩=>⟨[],F,fun _=>none,_,he,rfl,⟨k1,k2,k3,k4,fun k hk=>?_,k5⟩,fun _ h=>h,fun _ h=>.inl h,fun b hb'=>Nat.lt_of_lt_of_le (hlt b hb') k4,⟨rfl,fun k r v hk=>by simp at hk,fun k k' L L' hk=>by simp at hk⟩,fun o ob L' ho' hL=>?_⟩
   ·exact k6 k (Base.not_mine hk) fun e=>hk (.inr ⟨700000,_,L,hH0,ho,e.symm⟩)
   ·obtain ⟨rfl,rfl⟩:=hO o ob ho'
    obtain rfl:=Option.some.inj (ho.symm.trans hL)
    refine ⟨⟨p1,by simpa [hl] using p2,fun el hel=>?_,by simpa [hl] using p4,cs',ty,k7,k8.trans p6,fun e el j x he hx=>?_⟩,q3⟩
    ·obtain ⟨a,-,rfl⟩:=List.mem_map.1 hel
     show (iv a).length = k
     rw [hiv]; simp [hq]
    ·rw [List.getElem?_map,Option.map_eq_some_iff] at he
     obtain ⟨a,ha,rfl⟩:=he
     obtain ⟨hj,rfl⟩:=List.getElem?_eq_some_iff.1 ha
     rw [hiv,List.getElem?_map,Option.map_eq_some_iff] at hx
     obtain ⟨n,hn',rfl⟩:=hx
     refine ⟨_, ?_,.int _ _⟩
     rw [show L.base + e * L.sz + j = L.base + 0 * L.sz + e * k + j by rw [hs1]; omega]
     exact k9 e hj j n hn'
theorem cmp_of_PCK {E:Env} {g:FuncId} {cap:List IV} {x y:List Int} {r:Int} (hpc:PC E g ([.agg (x.map (.int .i64 ·)),.agg (y.map (.int .i64 ·))] ++ cap.map .i) [.i (.int .i64 r)]) {F:Nat → Prop} {w:World} (hG:GRep E F w) (hlt:∀ b,F b → b < w.heap.size) {cb:Array Value}
  (hfn:Rep F w (.fn g cap) (.func (.func g) #[] cb)) {w1:World} (hs:w.heap.size ≤ w1.heap.size) (hw:∀ b,F b → w1.heap[b]? = w.heap[b]?) :
  Calls E.P g (#[.agg (x.map (Value.int .i64 ·)).toArray,.agg (y.map (Value.int .i64 ·)).toArray] ++ cb) w1 fun e w'=>e = .returned (.int .i64 r) ∧ Below w1.heap.size w1 w':=by
 have hag:∀ (z:List Int),RepA F (fun _=>none) w1 (.agg (z.map (IV.int .i64 ·))) (.agg (z.map (Value.int .i64 ·)).toArray):=fun z=>by
  refine .agg _ _ (by simp) fun j u v hu hv=>?_
  rw [List.getElem?_map,Option.map_eq_some_iff] at hu
  obtain ⟨n,hn,rfl⟩:=hu
  rw [List.getElem?_toArray,List.getElem?_map,hn] at hv
  obtain rfl:=Option.some.inj hv
  exact .int _ _
 cases hfn with | fn _ _ _ hsz hr =>
 refine (hpc.run F w1 _ (hG.mono (fun _ h=>h) hw) (fun b hb=>Nat.lt_of_lt_of_le (hlt b hb) hs) (by simp [hsz]; omega) (fun j u v hu hv=>?_)).mono fun e w' ⟨vs,F',ls,he,hb,_,_,_,hrep⟩=>?_
 ·match j,hu,hv with
  | 0,hu,hv =>
   obtain rfl:=Option.some.inj hu
   rw [Array.getElem?_append_left (by simp)] at hv
   obtain rfl:=Option.some.inj hv
   exact hag x
  | 1,hu,hv =>
   obtain rfl:=Option.some.inj hu
   rw [Array.getElem?_append_left (by simp)] at hv
   obtain rfl:=Option.some.inj hv
   exact hag y
  | j + 2,hu,hv =>
   simp only [List.cons_append,List.nil_append,List.getElem?_cons_succ,List.getElem?_map,Option.map_eq_some_iff] at hu
   obtain ⟨z,hz,rfl⟩:=hu
   rw [Array.getElem?_append_right (by simp)] at hv
   exact .i _ _ ((hr j z v hz (by simpa using hv)).mono (fun _ h=>h) hw)
 ·refine ⟨?_,hb⟩
  subst he
  have hl:=hrep.len
  match vs,hl with
  | [v],_ =>
   rw [show v = .int .i64 r from repR_int (hrep.rep 0 _ v rfl rfl)]; rfl
theorem sorted_rowK {α:Type} [Inhabited α] {enc:α → List Value} {k:Nat} {w w':World} {blk off n:Nat} {d:Array α} {os:Array _root_.Go.Obj} {cs:Array Value} {ty:TypeId} (hk:∀ x,(enc x).length = k) (hb:w.heap[blk]? = some (.cells cs ty (0,0))) (hfit:off + d.size * k ≤ cs.size)
  (he:w' = Proofs.sortWorldK enc k w blk off n d os) :
  w'.os = w.os ∧ w'.tape = w.tape ∧ w'.output = w.output ∧ w.heap.size ≤ w'.heap.size ∧ w.drawn ≤ w'.drawn ∧ (∀ b,b < w.heap.size → b ≠ blk → w'.heap[b]? = w.heap[b]?) ∧
   ∃ cs',w'.heap[blk]? = some (.cells cs' ty (0,0)) ∧ cs'.size = cs.size ∧ ∀ (i:Nat) (hi:i < d.size) (j:Nat) (v:Value),(enc d[i])[j]? = some v → cs'[off + i * k + j]? = some v:=by
 obtain ⟨k1,k2,k3,k4,k5,k6,cs',k7,k8,k9⟩:=sorted_row (enc:=(id:Value → Value)) (d:=Go.Sort.flatK enc k d) hb (by simpa using hfit) he
 refine ⟨k1,k2,k3,k4,k5,k6,cs',k7,k8,fun i hi j v hv=>?_⟩
 have hj:j < k:=by rw [← hk d[i]]; exact (List.getElem?_eq_some_iff.1 hv).1
 have hlt:i * k + j < (Go.Sort.flatK enc k d).size:=by
  rw [Go.Sort.size_flatK]
  have:=Nat.mul_le_mul_right k (show i + 1 ≤ d.size from hi)
  rw [Nat.add_mul,Nat.one_mul] at this
  omega
 have hg:=Go.Sort.get_flatK enc k d (i * k + j) (by simpa using hlt)
 have hk0:0 < k:=by omega
 rw [show (i * k + j) / k = i by rw [Nat.mul_comm,Nat.mul_add_div hk0,Nat.div_eq_of_lt hj]; omega,show (i * k + j) % k = j by rw [Nat.mul_comm,Nat.mul_add_mod,Nat.mod_eq_of_lt hj],getElem!_pos d i hi,getElem!_pos (Go.Sort.flatK enc k d) (i * k + j) hlt] at hg
 have:=k9 _ hlt
 rw [hg,← Nat.add_assoc] at this
 rw [this]
 obtain ⟨h1,h2⟩:=List.getElem?_eq_some_iff.1 hv
 rw [getElem!_pos _ j h1,h2]
 rfl
theorem PM_sortK {E:Env} {ρ:Go.Shelf.Ren} (L:Proofs.SlLaysF0.n6 E.P ρ) {k:Nat} (aE:∀ w,(isAgg (ρ.t 24)).run E.P w = .ok true w) (zE:∀ w,(Go.sizeOf (ρ.t 24)).run E.P w = .ok k w) {f:FuncId} (hf:f = ρ.f 6) (hg:goesB E.P f = true) {g:FuncId} {cap:List IV} {α:Type} (q:α → List Int) (hq:∀ x,(q x).length = k) {iv:α → List IV} (hiv:∀ x,iv x = (q x).map (.int .i64 ·)) (cf:α → α → Int) {l l':List α} (hln:l.length < 4611686018427387904)
  (eg:∀ args w,(callFunc g args).run E.P w = .ok (.enter g args) w)
  (hc:∀ x ∈ l,∀ y ∈ l,PC E g ([.agg (iv x),.agg (iv y)] ++ cap.map .i) [.i (.int .i64 (cf x y))])
  (o1:∀ x ∈ l,¬ cf x x < 0) (o2:∀ x ∈ l,∀ y ∈ l,∀ z ∈ l,cf x y < 0 → cf y z < 0 → cf x z < 0) (o3:∀ x ∈ l,∀ y ∈ l,∀ z ∈ l,¬ cf x y < 0 → ¬ cf y z < 0 → ¬ cf x z < 0)
  (hl:l'.length = l.length) (hu:∀ m:List α,m.Perm l → m.Pairwise (fun a b=>¬ cf b a < 0) → m = l') :
  PM E f [.sl ⟨k,l.map iv⟩,.i (.i (.fn g cap))] [⟨k,l'.map iv⟩] []:=by
 subst hf
 refine PM_of_sortK q hq hiv hg hl (fun h0 a c cb w=>?_) (fun F w blk off c cs ty cb hne hG hlt hblk hcells hv hfit hfn=>?_)
 ·exact (Proofs.AnyF.slices_SortFunc_none L a c (.func (.func g) #[] cb) w).mono fun e w' ⟨he,hw⟩=>⟨he,by rw [hw]; exact Below.refl _ _⟩
 ·have hl0:0 < l.length:=List.length_pos_iff.2 hne
  let β:={ x:α // x ∈ l }
  letI:Inhabited β:=⟨⟨l[0],List.getElem_mem hl0⟩⟩
  let enc:β → List Value:=fun x=>(q x.1).map (Value.int .i64 ·)
  have henc:∀ x:β,(enc x).length = k:=fun x=>by simp [enc,hq]
  let d:Array β:=l.attach.toArray
  have hds:d.size = l.length:=by
   show l.attach.toArray.size = _
   rw [List.size_toArray]
   exact List.length_attach
  have hdi:∀ (j:Nat) (hj:j < d.size),(d[j]!).1 = l[j]'(by omega):=fun j hj=>by
   rw [getElem!_pos d j hj]
   show (l.attach.toArray[j]).1 = _
   rw [List.getElem_toArray]
   exact congrArg Subtype.val (List.getElem_attach ..)
  have hbl:blk < w.heap.size:=(Array.getElem?_eq_some_iff.1 hcells).1
  have hH:Sort.HoldsK enc k w blk off d:=fun t ht=>by
   have ht':t < d.size * k:=by simpa using ht
   have k0:0 < k:=by
    rcases Nat.eq_zero_or_pos k with h | h; · subst h; simp at ht'
    ·exact h
   have ti:t / k < d.size:=Nat.div_lt_of_lt_mul (by rw [Nat.mul_comm]; exact ht')
   have tj:t % k < k:=Nat.mod_lt _ k0
   refine ⟨?_, ?_⟩
   ·show w.cell? _ = some ((Go.Sort.flatK enc k d)[t]!)
    rw [Go.Sort.get_flatK enc k d t ht']
    have hlen:t % k < (q (d[t / k]!).1).length:=by rw [hq]; exact tj
    have hi':t / k < l.length:=by omega
    have e1:(enc d[t / k]!)[t % k]! = .int .i64 ((q (d[t / k]!).1)[t % k]):=by
     rw [getElem!_pos _ _ (by rw [henc]; exact tj)]
     simp [enc]
    rw [e1]
    have:=hv (t / k) hi' (t % k) ((q (d[t / k]!).1)[t % k]) (by rw [List.getElem?_eq_getElem (by rw [hq]; exact tj)]; congr 2; exact congrArg q (hdi _ ti).symm)
    simp only [World.cell?,hcells]
    rw [show off + t = off + t / k * k + t % k by have:=Nat.div_add_mod t k; rw [Nat.mul_comm] at this; omega]
    exact this
   ·simp [World.frozen?,hcells]
  let cf':β → β → Int:=fun x y=>cf x.1 y.1
  have hlt':∀ x y,Proofs.ltOf cf' x y = decide (cf x.1 y.1 < 0):=fun x y=>rfl
  have hO:Sort.SWO (Proofs.ltOf cf'):=by
   refine ⟨fun x=>?_,fun x y z h1 h2=>?_,fun x y z h1 h2=>?_⟩
   ·rw [hlt',decide_eq_false_iff_not]; exact o1 x.1 x.2
   ·rw [hlt',decide_eq_true_eq] at *; exact o2 x.1 x.2 y.1 y.2 z.1 z.2 h1 h2
   ·rw [hlt',decide_eq_false_iff_not] at *; exact o3 x.1 x.2 y.1 y.2 z.1 z.2 h1 h2
  have hcmp:Proofs.CmpLays E.P g cb enc k cf' blk off d.size w:=fun m os dk hs x y=>by
   have hw1:w.heap.size ≤ (Proofs.sortWorldK enc k w blk off m dk os).heap.size:=by
    simp [Proofs.sortWorldK,Go.Sort.putRowK,Go.Sort.grow,Go.Sort.putRow,Go.Sort.mapBlock,Go.Sort.ahead]
   have hw2:∀ b,F b → (Proofs.sortWorldK enc k w blk off m dk os).heap[b]? = w.heap[b]?:=fun b hb=>by
    have hb1:=hlt b hb
    have hb2:b ≠ blk:=fun e=>hblk (e ▸ hb)
    unfold Proofs.sortWorldK
    rw [Go.Sort.heap_grow_old _ _ (by simpa [Go.Sort.putRowK,Go.Sort.putRow,Go.Sort.mapBlock,Go.Sort.ahead] using hb1)]
    simp only [Go.Sort.putRowK,Go.Sort.putRow,Go.Sort.mapBlock,Go.Sort.ahead,Array.getElem?_modify]
    rw [if_neg (fun e=>hb2 e.symm)]
   have hpc:=hc x.1 x.2 y.1 y.2
   rw [hiv,hiv] at hpc
   exact (cmp_of_PCK hpc hG hlt hfn hw1 hw2).mono fun e w' ⟨he,hb⟩=>⟨he,hb.grows⟩
  have hS:=Proofs.AnyQ.slices_SortFunc L k aE zE enc henc (fun x v hv=>by
   obtain ⟨n,-,rfl⟩:=List.mem_map.1 hv; rfl) cf' hO g cb blk off c d w eg hcmp hH hbl (by omega)
  rw [hds] at hS
  refine hS.mono fun e w' ⟨he,d',n,os,hp,hs,hw⟩=>?_
  rw [← hds] at hp hs
  obtain ⟨q1,q2,q3⟩:=sorted_list hp hs
  have hm:d'.toList.map (·.1) = l':=by
   refine hu _ ?_ ?_
   ·have:=q2.map (fun x:β=>x.1)
    have e:(d.toList.map fun x:β=>x.1) = l:=List.attach_map_subtype_val l
    rw [e] at this
    exact this
   ·rw [List.pairwise_map]
    exact q3.imp fun {a b} h=>by rw [hlt',decide_eq_false_iff_not] at h; exact h
  have hfit':off + d'.size * k ≤ cs.size:=by rw [q1,hds]; exact hfit
  obtain ⟨k1,k2,k3,k4,k5,k6,cs',k7,k8,k9⟩:=sorted_rowK henc hcells hfit' hw
  refine ⟨he,k1,k2,k3,k4,k5,k6,cs',k7,k8,fun i hi j n hj=>?_⟩
  have hi':i < d'.size:=by omega
  refine k9 i hi' j (.int .i64 n) ?_
  subst hm
  simp only [List.getElem_map,Array.getElem_toList] at hj
  show ((q d'[i].1).map _)[j]? = _
  rw [List.getElem?_map,hj]; rfl
end Go.Vai
