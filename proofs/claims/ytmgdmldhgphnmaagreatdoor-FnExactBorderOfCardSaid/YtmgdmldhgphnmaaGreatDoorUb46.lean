/- Texts of this claim: Zq12, Zq13, Zq14, Zq15, Zq16, Zq17, Zq18. -/
import Derived.Test.YtmgdmldhgphnmaaGreatDoorUb44
import Derived.Test.YtmgdmldhgphnmaaGreatDoorUb42
set_option linter.unusedVariables false
set_option linter.unusedSimpArgs false
set_option maxHeartbeats 8000000
set_option maxRecDepth 20000
namespace Go.Vai
open Pq
def Clo (cs:List Cr) (S:Nat → Bool):Prop:=S 0 = true ∧ ∀ c ∈ cs,S c.a.toNat = S c.b.toNat
def Con (n:Nat) (cs:List Cr):Prop:=∀ S:Nat → Bool,Clo cs S → ∀ i,i < n → S i = true
open Classical in
noncomputable def conB (n:Nat) (cs:List Cr):Bool:=decide (Con n cs)
def encB (b:Bool):List IV:=[.bool b]
def nf:List Bool → Nat
 | []=>0
 | b :: t=>(if b = true then 0 else 1) + nf t
theorem nf_le:∀ (R:List Bool) (i:Nat),nf (R.set i true) ≤ nf R
 | [],i=>by simp [nf]
 | b :: t,0=>by simp only [List.set_cons_zero,nf,if_true]; omega
 | b :: t,i + 1=>by have:=nf_le t i; simp only [List.set_cons_succ,nf]; omega
theorem nf_lt:∀ (R:List Bool) (i:Nat),R.getD i true = false → nf (R.set i true) < nf R
 | [],i,h=>by simp at h
 | b :: t,0,h=>by
  simp only [List.getD_cons_zero] at h
  subst h
  simp only [List.set_cons_zero,nf]; simp
 | b :: t,i + 1,h=>by
  have:=nf_lt t i (by simpa using h)
  simp only [List.set_cons_succ,nf]; omega
structure Rch (n:Nat) (cs:List Cr) (R:List Bool):Prop where
 len:R.length = n
 z:R.getD 0 false = true
 min:∀ S,Clo cs S → ∀ i,R.getD i false = true → S i = true
theorem getD_set {R:List Bool} {a i:Nat} (h:(R.set a true).getD i false = true):i = a ∨ R.getD i false = true:=by
 by_cases e:i = a
 ·exact .inl e
 ·right
  simpa [List.getD_eq_getElem?_getD,List.getElem?_set_ne (fun h=>e h.symm)] using h
theorem getD_set' {R:List Bool} {a i:Nat} (h:R.getD i false = true):(R.set a true).getD i false = true:=by
 have hi:i < R.length:=Classical.byContradiction fun hn=>by
  rw [List.getD_eq_getElem?_getD,List.getElem?_eq_none (by omega)] at h; simp at h
 by_cases e:a = i
 ·subst e; simp [List.getD_eq_getElem?_getD,hi]
 ·simpa [List.getD_eq_getElem?_getD,List.getElem?_set_ne e] using h
theorem Rch.both {n:Nat} {cs:List Cr} {R:List Bool} (h:Rch n cs R) {c:Cr} (hc:c ∈ cs) (hne:R.getD c.a.toNat false = true ∨ R.getD c.b.toNat false = true):Rch n cs ((R.set c.a.toNat true).set c.b.toNat true):=by
 refine ⟨by simp [h.len],getD_set' (getD_set' h.z),fun S hS i hi=>?_⟩
 have hab:=hS.2 c hc
 have hA:S c.a.toNat = true ∧ S c.b.toNat = true:=by
  rcases hne with g | g
  ·have:=h.min S hS _ g
   exact ⟨this,by rw [← hab]; exact this⟩
  ·have:=h.min S hS _ g
   exact ⟨by rw [hab]; exact this,this⟩
 rcases getD_set hi with rfl | hi
 ·exact hA.2
 ·rcases getD_set hi with rfl | hi
  ·exact hA.1
  ·exact h.min S hS i hi
open Classical in
theorem Rch.done {n:Nat} {cs:List Cr} {R:List Bool} (h:Rch n cs R) (hcl:∀ c ∈ cs,R.getD c.a.toNat false = R.getD c.b.toNat false):conB n cs = R.all id:=by
 unfold conB
 have e:Con n cs ↔ R.all id = true:=by
  constructor
  ·intro hC
   rw [List.all_eq_true]
   intro b hb
   obtain ⟨i,hi,rfl⟩:=List.getElem_of_mem hb
   have:=hC (fun i=>R.getD i false) ⟨h.z,hcl⟩ i (by rw [← h.len]; exact hi)
   simpa [List.getD_eq_getElem?_getD,hi] using this
  ·intro ha S hS i hi
   rw [List.all_eq_true] at ha
   have hi':i < R.length:=by rw [h.len]; exact hi
   exact h.min S hS i (by have:=ha _ (List.getElem_mem hi'); simpa [List.getD_eq_getElem?_getD,hi'] using this)
 cases hb:R.all id
 ·exact decide_eq_false (fun hC=>by rw [e.1 hC] at hb; exact absurd hb (by decide))
 ·exact decide_eq_true (e.2 hb)
open Classical in
theorem con_zero (cs:List Cr):conB 0 cs = true:=decide_eq_true fun S hS i hi=>by omega
theorem rch_start {n:Nat} (hn:0 < n) (cs:List Cr):Rch n cs ((List.replicate n false).set 0 true):=by
 refine ⟨by simp,by simp [List.getD_eq_getElem?_getD,hn],fun S hS i hi=>?_⟩
 rcases getD_set hi with rfl | hi
 ·exact hS.1
 ·exfalso
  by_cases h:i < n
  ·simp [List.getD_eq_getElem?_getD,h] at hi
  ·simp [List.getD_eq_getElem?_getD,h] at hi
end Go.Vai
namespace Go.Vai
open Pq
@[simp] theorem encB_len (b:Bool):(encB b).length = 1:=rfl
theorem c279 (R:List Bool) (h:(R.length:Int) ≤ 1048576):PC E 279 [.i (.sl (R.map encB)),.i (.bool false)] [.i (.int .i64 (fidx (fun b=>!b) R))]:=by
 refine PC_start hE Proofs.Tryz.func279 rfl rfl Proofs.Tryz.ntmps279 (by kernel_rfl) (by kernel_rfl) (by simp) ?_
 simp (maxSteps:=999999) (disch:=first|exact {}|omega|simp) [Lw,Lm,Lt,Lo,Ln,allLen]
 refine XL.by hE (ι:={ k:Nat // k ≤ R.length ∧ ∀ (j:Nat) (hj:j < R.length),j < k → (fun b=>!b) R[j] = false }) (fun k=>⟨[(0,.i (.sl (R.map encB))),(1,.i (.bool false)),(7,.i (.int .i64 R.length)),(8,.i (.int .i64 k.1))],[]⟩)
  (fun k=>R.length - k.1) ⟨0,Nat.zero_le _,by simp⟩ ⟨by simp,by simp,by simp⟩ (by kernel_rfl) ?_
 rintro ⟨k,hk,hno⟩
 by_cases hlt:k < R.length
 ·have hg:(R.map encB)[k]? = some [.bool R[k]]:=by simp [hlt,encB]
  simp (maxSteps:=999999) (disch:=first|exact {}|omega|simp) [Lw,Lm,Lt,Lo,Ln,allLen,hlt,hg]
  cases hb:R[k]
  ·have:=fidx_at (p:=fun b=>!b) hlt hno (by simp [hb])
   simp (maxSteps:=999999) (disch:=first|exact {}|omega|simp) [Lw,Lm,Lt,Lo,Ln,allLen,this]
  ·simp (maxSteps:=999999) (disch:=first|exact {}|omega|simp) [Lw,Lm,Lt,Lo,Ln,allLen]
   (refine ⟨⟨k + 1,by omega,step_no hno hlt (by simp [hb])⟩,by (simp; try omega), ?_⟩; constructor <;> (simp (maxSteps:=999999) (disch:=first|exact {}|omega|simp) [Lw,Lm,Lt,Lo,Ln,allLen]) <;> (try omega))
 ·obtain rfl:k = R.length:=by omega
  simp (maxSteps:=999999) (disch:=first|exact {}|omega|simp) [Lw,Lm,Lt,Lo,Ln,allLen,fidx_none fun j hj=>hno j hj hj]
theorem c206 (R:List Bool) (h:(R.length:Int) ≤ 1048576):PC E 206 [.i (.sl (R.map encB)),.i (.bool false)] [.i (.bool (!R.all id))]:=by
 have e:decide (0 ≤ fidx (fun b=>!b) R) = !R.all id:=by
  rw [fidx_any,List.not_all_eq_any_not]; rfl
 refine PC_start hE Proofs.Tryz.func206 rfl rfl Proofs.Tryz.ntmps206 (by kernel_rfl) (by kernel_rfl) (by simp) ?_
 simp (maxSteps:=999999) (disch:=first|exact {}|omega|simp) [Lw,Lm,Lt,Lo,Ln,allLen]
 refine CallK.of (c279 R h) (by first | exact .inl rfl | exact .inr (by simp)) (by simp) ?_
 simp (maxSteps:=999999) (disch:=first|exact {}|omega|simp) [Lw,Lm,Lt,Lo,Ln,allLen,e]
structure Pas (n:Nat) (cs:List Cr) (R R':List Bool) (ch:Bool) (k:Nat):Prop where
 r:Rch n cs R'
 le:nf R' ≤ nf R
 lt:ch = true → nf R' < nf R
 same:ch = false → R' = R ∧ ∀ i,i < k → R.getD (getK cs i).a.toNat false = R.getD (getK cs i).b.toNat false
theorem c106 (ps:List Pt) (cs:List Cr) (hcin:∀ c ∈ cs,Cin ps.length c) (h:(ps.length:Int) ≤ 1048576) (hc:(cs.length:Int) ≤ 1048576) :
  PC E 106 [.agg (encPa ps cs)] [.i (.bool (conB ps.length cs))]:=by
 refine PC_start hE Proofs.Tryz.func106 rfl rfl Proofs.Tryz.ntmps106 (by kernel_rfl) (by kernel_rfl) (by simp) ?_
 simp (maxSteps:=999999) (disch:=first|exact {}|omega|simp) [Lw,Lm,Lt,Lo,Ln,allLen,encPa]
 by_cases h0:ps.length = 0
 ·have hp0:ps = []:=List.length_eq_zero_iff.1 h0
  subst hp0
  have:=con_zero cs
  simp (maxSteps:=999999) (disch:=first|exact {}|omega|simp) [Lw,Lm,Lt,Lo,Ln,allLen,this]
 have hn:0 < ps.length:=by omega
 have hp:ps ≠ []:=by rintro rfl; simp at h0
 simp (maxSteps:=999999) (disch:=first|exact {}|omega|simp) [Lw,Lm,Lt,Lo,Ln,allLen,h0,hn,hp]
 refine XL.by hE (ι:={ p:List Bool × Bool // Rch ps.length cs p.1 ∧ (p.2 = false → ∀ c ∈ cs,p.1.getD c.a.toNat false = p.1.getD c.b.toNat false) }) (fun p=>⟨[(1,.ptr 1 0 0),(3,.own 14 0 ps.length),(4,.i (.bool p.1.2))],[(1,⟨2,[encPa ps cs]⟩),(14,⟨1,p.1.1.map encB⟩)]⟩)
  (fun p=>2 * nf p.1.1 + (if p.1.2 = true then 1 else 0)) ⟨((List.replicate ps.length false).set 0 true,true),rch_start hn cs,fun h=>by simp at h⟩ ⟨by simp,by simp [encPa,encB,List.map_set],by simp⟩ (by kernel_rfl) ?_
 rintro ⟨⟨R,ch⟩,hR,hcl⟩
 simp only at hR hcl
 have hRl:=hR.len
 cases ch
 ·have hd:=hR.done (hcl rfl)
  have tk:List.take ps.length (R.map encB) = R.map encB:=List.take_of_length_le (by simp [hRl])
  simp (maxSteps:=999999) (disch:=first|exact {}|omega|simp) [Lw,Lm,Lt,Lo,Ln,allLen,hRl,tk]
  refine CallK.of (c206 R (by omega)) (by first | exact .inl rfl | exact .inr (by simp)) (by simp) ?_
  simp (maxSteps:=999999) (disch:=first|exact {}|omega|simp) [Lw,Lm,Lt,Lo,Ln,allLen,hd]
 ·simp (maxSteps:=999999) (disch:=first|exact {}|omega|simp) [Lw,Lm,Lt,Lo,Ln,allLen,encPa]
  refine XL.by hE (ι:={ p:Nat × List Bool × Bool // p.1 ≤ cs.length ∧ Pas ps.length cs R p.2.1 p.2.2 p.1 }) (fun p=>⟨[(1,.ptr 1 0 0),(3,.own 14 0 ps.length),(4,.i (.bool p.1.2.2)),(19,.i (.sl (cs.map encK))),(20,.i (.int .i64 cs.length)),(21,.i (.int .i64 p.1.1))],[(1,⟨2,[encPa ps cs]⟩),(14,⟨1,p.1.2.1.map encB⟩)]⟩)
   (fun p=>cs.length - p.1.1) ⟨(0,R,false),Nat.zero_le _,⟨hR,Nat.le_refl _,fun h=>by simp at h,fun _=>⟨rfl,fun i hi=>by simp at hi⟩⟩⟩ ⟨by simp,by simp [encPa],by simp⟩ (by kernel_rfl) ?_
  rintro ⟨⟨k,R',ch⟩,hk,hP⟩
  simp only at hk hP
  have hRl':=hP.r.len
  by_cases hlt:k < cs.length
  ·obtain ⟨hg,he⟩:=getK_get hlt
   have hci:=hcin _ (List.getElem_mem hlt)
   have hmem:getK cs k ∈ cs:=by rw [he]; exact List.getElem_mem hlt
   rw [← he] at hci
   have hbt:=hP.r.both hmem
   have hsame:=hP.same
   clear he
   generalize hcc:getK cs k = c at *
   obtain ⟨a0,ab,bn⟩:=hci
   have na:¬ c.a < 0:=by omega
   have nb:¬ c.b < 0:=by omega
   have la:c.a.toNat < R'.length:=by omega
   have lb:c.b.toNat < R'.length:=by omega
   have la2:c.a.toNat < ps.length:=by omega
   have lb2:c.b.toNat < ps.length:=by omega
   have ga:(R'.map encB)[c.a.toNat]? = some [.bool (R'.getD c.a.toNat false)]:=by simp [la,encB]
   have gb:(R'.map encB)[c.b.toNat]? = some [.bool (R'.getD c.b.toNat false)]:=by simp [lb,encB]
   have ga2:=(List.getElem?_eq_some_iff.1 ga).2
   have gb2:=(List.getElem?_eq_some_iff.1 gb).2
   have xa:R'.getD c.a.toNat false = R'[c.a.toNat]:=by simp [la]
   have xb:R'.getD c.b.toNat false = R'[c.b.toNat]:=by simp [lb]
   have hnab:c.a.toNat ≠ c.b.toNat:=by omega
   simp (maxSteps:=999999) (disch:=first|exact {}|omega|simp) [Lw,Lm,Lt,Lo,Ln,allLen,hlt,hg,encK,na,nb,la,lb,la2,lb2,hRl',ga,gb,ga2,gb2,encPa]
   by_cases g1:R'[c.a.toNat] = R'[c.b.toNat]
   ·simp (maxSteps:=999999) (disch:=first|exact {}|omega|simp) [Lw,Lm,Lt,Lo,Ln,allLen,g1]
    (refine ⟨⟨(k + 1,R',ch),by simp; omega,⟨hP.r,hP.le,hP.lt,fun hch=>⟨(hsame hch).1,fun i hi=>by
     by_cases e:i = k
     ·subst e
      rw [hcc,← (hsame hch).1,xa,xb,g1]
     ·exact (hsame hch).2 i (by omega)⟩⟩⟩,by (simp; try omega), ?_⟩; constructor <;> (simp (maxSteps:=999999) (disch:=first|exact {}|omega|simp) [Lw,Lm,Lt,Lo,Ln,allLen,encPa]) <;> (try omega))
   ·have hone:R'.getD c.a.toNat false = true ∨ R'.getD c.b.toNat false = true:=by
     rw [xa,xb]
     revert g1
     cases R'[c.a.toNat] <;> cases R'[c.b.toNat] <;> simp
    have hlow:nf ((R'.set c.a.toNat true).set c.b.toNat true) < nf R':=by
     have l1:=nf_le (R'.set c.a.toNat true) c.b.toNat
     have l2:=nf_le R' c.a.toNat
     by_cases z:R'[c.a.toNat] = false
     ·have:=nf_lt R' c.a.toNat (by simp [la,z])
      omega
     ·have zb:R'[c.b.toNat] = false:=by
       revert g1 z
       cases R'[c.a.toNat] <;> cases R'[c.b.toNat] <;> simp
      have:=nf_lt (R'.set c.a.toNat true) c.b.toNat (by rw [List.getD_eq_getElem?_getD,List.getElem?_set_ne hnab]; simp [lb,zb])
      omega
    have hle:=hP.le
    have hB:=hbt hone
    have hbn:(R'[c.a.toNat] != R'[c.b.toNat]) = true:=by simp [g1]
    generalize (R'[c.a.toNat] != R'[c.b.toNat]) = q at *
    subst hbn
    simp (maxSteps:=999999) (disch:=first|exact {}|omega|simp) [Lw,Lm,Lt,Lo,Ln,allLen]
    refine Xc_late E _ _ _ 7 [3,4,5] [14] (by kernel_rfl) (by kernel_rfl) ?_
    have hP2:Pas ps.length cs R ((R'.set c.a.toNat true).set c.b.toNat true) true (k + 1):=⟨hB,by omega,fun _=>by omega,fun h=>by simp at h⟩
    simp (maxSteps:=999999) (disch:=first|exact {}|omega|simp) [Lw,Lm,Lt,Lo,Ln,allLen,na,nb,la,lb,la2,lb2,hRl',ga2,gb2,encB]
    (refine ⟨⟨(k + 1,(R'.set c.a.toNat true).set c.b.toNat true,true),by simp; omega,hP2⟩,by (simp; try omega), ?_⟩; constructor <;> (simp (maxSteps:=999999) (disch:=first|exact {}|omega|simp) [Lw,Lm,Lt,Lo,Ln,allLen,encPa,encB,List.map_set,na,nb,la,lb,la2,lb2,hRl']) <;> (try omega))
  ·obtain rfl:k = cs.length:=by omega
   have h1:=hP.lt
   have h2:=hP.same
   have hr:=hP.r
   have hcl':ch = false → ∀ c ∈ cs,R'.getD c.a.toNat false = R'.getD c.b.toNat false:=fun hch c hc=>by
    obtain ⟨i,hi,rfl⟩:=List.getElem_of_mem hc
    have:=(h2 hch).2 i hi
    rw [(getK_get hi).2] at this
    rw [(h2 hch).1]; exact this
   have hms:2 * nf R' + (if ch = true then 1 else 0) < 2 * nf R + 1:=by
    cases ch
    ·rw [(h2 rfl).1]; simp
    ·have:=h1 rfl; simp; omega
   simp (maxSteps:=999999) (disch:=first|exact {}|omega|simp) [Lw,Lm,Lt,Lo,Ln,allLen]
   (refine ⟨⟨(R',ch),hr,hcl'⟩,by (simp; try omega), ?_⟩; constructor <;> (simp (maxSteps:=999999) (disch:=first|exact {}|omega|simp) [Lw,Lm,Lt,Lo,Ln,allLen,encPa]) <;> (try omega))
end Go.Vai
set_option maxHeartbeats 4000000
namespace Go.Vai
structure See (n:Nat) (cs:List Cr) (L:List Nat):Prop where
 nd:L.Nodup
 bd:∀ v ∈ L,v < n
 z:0 ∈ L
 min:∀ S,Clo cs S → ∀ v ∈ L,S v = true
theorem sum_two (n:Nat):Wk.sumTo (fun _=>2) n = 2 * n:=by
 induction n with
 | zero=>rfl
 | succ n ih=>simp only [Wk.sumTo]; rw [ih]; omega
theorem See.len {n:Nat} {cs:List Cr} {L:List Nat} (h:See n cs L):L.length = n ↔ ∀ v,v < n → v ∈ L:=by
 have hs:=Wk.sumTo_mem (n:=n) h.nd h.bd
 constructor
 ·intro e v hv
  refine Classical.byContradiction fun hno=>?_
  have:=Wk.sumTo_lt (f:=fun v=>if v ∈ L then 2 else 0) (g:=fun _=>2) (fun v=>by split <;> omega) (u:=v) (by rw [if_neg hno]; omega) n hv
  rw [hs,sum_two] at this
  omega
 ·intro ha
  have:=Wk.sumTo_congr (f:=fun v=>if v ∈ L then 2 else 0) (g:=fun _=>2) n fun v hv=>by rw [if_pos (ha v hv)]
  rw [hs,sum_two] at this
  omega
open Classical in
theorem See.done {n:Nat} {cs:List Cr} {L:List Nat} (h:See n cs L) (hcl:∀ c ∈ cs,c.a.toNat ∈ L ↔ c.b.toNat ∈ L):conB n cs = decide (L.length = n):=by
 unfold conB
 have e:Con n cs ↔ L.length = n:=by
  rw [h.len]
  constructor
  ·intro hC v hv
   have:=hC (fun v=>decide (v ∈ L)) ⟨decide_eq_true h.z,fun c hc=>by simp only [decide_eq_decide]; exact hcl c hc⟩ v hv
   simpa using this
  ·intro ha S hS v hv
   exact h.min S hS v (ha v hv)
 by_cases he:L.length = n
 ·rw [decide_eq_true he]; exact decide_eq_true (e.2 he)
 ·rw [decide_eq_false he]; exact decide_eq_false fun hC=>he (e.1 hC)
theorem See.add {n:Nat} {cs:List Cr} {L:List Nat} (h:See n cs L) {u v:Nat} (hu:u ∈ L) (hv:v < n) (hno:v ∉ L) {c:Cr} (hc:c ∈ cs) (he:(c.a.toNat = u ∧ c.b.toNat = v) ∨ (c.a.toNat = v ∧ c.b.toNat = u)):See n cs (L ++ [v]):=by
 refine ⟨?_,fun x hx=>?_,List.mem_append.2 (.inl h.z),fun S hS x hx=>?_⟩
 ·rw [List.nodup_append]
  exact ⟨h.nd,by simp,fun a ha b hb=>by
   obtain rfl:=List.mem_singleton.1 hb
   rintro rfl
   exact hno ha⟩
 ·rcases List.mem_append.1 hx with hx | hx
  ·exact h.bd x hx
  ·obtain rfl:=List.mem_singleton.1 hx; exact hv
 ·rcases List.mem_append.1 hx with hx | hx
  ·exact h.min S hS x hx
  ·obtain rfl:=List.mem_singleton.1 hx
   have hu':=h.min S hS u hu
   have hab:=hS.2 c hc
   rcases he with ⟨e1,e2⟩ | ⟨e1,e2⟩
   ·rw [e1,e2] at hab; rw [← hab]; exact hu'
   ·rw [e1,e2] at hab; rw [hab]; exact hu'
theorem See.start {n:Nat} (hn:0 < n) (cs:List Cr):See n cs [0] :=
 ⟨by simp,fun v hv=>by obtain rfl:=List.mem_singleton.1 hv; exact hn,by simp,fun S hS v hv=>by obtain rfl:=List.mem_singleton.1 hv; exact hS.1⟩
end Go.Vai
set_option maxHeartbeats 8000000
namespace Go.Vai
theorem c138 (ps:List Pt) (cs:List Cr) (l:List Int) (hl:∀ i ∈ l,0 ≤ i ∧ i < ps.length) (h:(l.length:Int) ≤ 1048576):PC E 138 [.agg (encPa ps cs),.i (.sl (l.map encI))] [.own 6 (encPs (l.map (pI ps)))]:=by
 refine PC_start hE Proofs.Tryz.func138 rfl rfl Proofs.Tryz.ntmps138 (by kernel_rfl) (by kernel_rfl) (by simp) ?_
 simp (maxSteps:=999999) (disch:=first|exact {}|omega|simp) [Lw,Lm,Lt,Lo,Ln,allLen,encPa]
 refine XL.by hE (ι:={ k:Nat // k ≤ l.length }) (fun k=>⟨[(2,.ptr 2 0 0),(5,.own 21 0 k.1),(8,.i (.sl (l.map encI))),(9,.i (.int .i64 l.length)),(10,.i (.int .i64 k.1))],[(2,⟨2,[encPa ps cs]⟩),(21,⟨6,encPs ((l.map (pI ps)).take k.1)⟩)]⟩)
  (fun k=>l.length - k.1) ⟨0,Nat.zero_le _⟩ ⟨by simp,by simp [encPa,encPs],by simp⟩ (by kernel_rfl) ?_
 rintro ⟨k,hk⟩
 by_cases hlt:k < l.length
 ·obtain ⟨b0,b1⟩:=hl _ (List.getElem_mem hlt)
  have hg:(l.map encI)[k]? = some [.int .i64 l[k]]:=by simp [hlt,encI]
  have ga:=encPs_get (l:=ps) (k:=(l[k]).toNat) (by omega)
  have hn:¬ l[k] < 0:=by omega
  have hll:(l[k]).toNat < ps.length:=by omega
  have hM:(l.map (pI ps)).take (k + 1) = (l.map (pI ps)).take k ++ [pI ps l[k]]:=by
   rw [List.take_add_one]; simp [hlt]
  have hst:encPs ((l.map (pI ps)).take (k + 1)) = encPs ((l.map (pI ps)).take k) ++ [encP (pI ps l[k])]:=by
   rw [hM]; simp [encPs]
  change (encPs ps)[(l[k]).toNat]? = some (encP (pI ps l[k])) at ga
  have hX:(encPs ((l.map (pI ps)).take k)).length = k:=by simp [encPs]; omega
  have tX:List.take k (encPs ((l.map (pI ps)).take k)) = encPs ((l.map (pI ps)).take k):=List.take_of_length_le (by omega)
  simp (maxSteps:=999999) (disch:=first|exact {}|omega|simp) [Lw,Lm,Lt,Lo,Ln,allLen,hlt,hg,ga,hn,hll,encPa]
  (refine ⟨⟨k + 1,by omega⟩,by (simp; try omega), ?_⟩; constructor <;> (simp (maxSteps:=999999) (disch:=first|exact {}|omega|simp) [Lw,Lm,Lt,Lo,Ln,allLen,encPa,hst,hX,tX]) <;> (try omega))
 ·obtain rfl:k = l.length:=by omega
  have hT:List.take l.length (encPs (l.map (pI ps))) = encPs (l.map (pI ps)):=List.take_of_length_le (by simp [encPs])
  simp (maxSteps:=999999) (disch:=first|exact {}|omega|simp) [Lw,Lm,Lt,Lo,Ln,allLen,hT]
def bendB (l:List Pt) (i:Nat):Bool:=decide (dirR (pminus (nth l i) (nth l ((i + l.length - 1) % l.length))) ≠ dirR (pminus (nth l ((i + 1) % l.length)) (nth l i)))
def bendN (l:List Pt):Nat → List Pt
 | 0=>[]
 | k + 1=>bendN l k ++ if bendB l k = true then [nth l k] else []
theorem bendN_len (l:List Pt):∀ k,(bendN l k).length ≤ k
 | 0=>by simp [bendN]
 | k + 1=>by
  have:=bendN_len l k
  simp only [bendN,List.length_append]
  split <;> simp <;> omega
theorem c137 (l:List Pt) (hv:∀ p ∈ l,PV p) (h:(l.length:Int) ≤ 1048576):PC E 137 [.i (.sl (encPs l))] [.own 6 (encPs (bendN l l.length))]:=by
 refine PC_start hE Proofs.Tryz.func137 rfl rfl Proofs.Tryz.ntmps137 (by kernel_rfl) (by kernel_rfl) (by simp) ?_
 simp (maxSteps:=999999) (disch:=first|exact {}|omega|simp) [Lw,Lm,Lt,Lo,Ln,allLen]
 refine XL.by hE (ι:={ k:Nat // k ≤ l.length }) (fun k=>⟨[(0,.i (.sl (encPs l))),(3,.i (.int .i64 l.length)),(4,.own 40 0 (bendN l k.1).length),(9,.i (.sl (encPs l))),(10,.i (.int .i64 l.length)),(11,.i (.int .i64 k.1))],[(40,⟨6,encPs (bendN l k.1)⟩)]⟩)
  (fun k=>l.length - k.1) ⟨0,Nat.zero_le _⟩ ⟨by simp [bendN],by simp [bendN,encPs],by simp⟩ (by kernel_rfl) ?_
 rintro ⟨k,hk⟩
 have hbl:=bendN_len l k
 by_cases hlt:k < l.length
 ·have m1:(k + l.length - 1) % l.length < l.length:=Nat.mod_lt _ (by omega)
  have m2:(k + 1) % l.length < l.length:=Nat.mod_lt _ (by omega)
  have e1:((k:Int) + l.length - 1).tmod l.length = (((k + l.length - 1) % l.length:Nat):Int):=by
   rw [show (k:Int) + l.length - 1 = ((k + l.length - 1:Nat):Int) by omega]; rfl
  have e2:((k:Int) + 1).tmod l.length = (((k + 1) % l.length:Nat):Int):=by
   rw [show (k:Int) + 1 = ((k + 1:Nat):Int) by omega]; rfl
  have hne:l ≠ []:=by rintro rfl; simp at hlt
  have tX:List.take (bendN l k).length (encPs (bendN l k)) = encPs (bendN l k):=List.take_of_length_le (by simp [encPs])
  have g0:=encPs_get hlt
  have g1:=encPs_get m1
  have g2:=encPs_get m2
  have hnl:¬ (l.length:Int) = 0:=by omega
  have d1:=c180 (nth l ((k + l.length - 1) % l.length)) (nth l k) (hv _ (nth_mem hlt)) (hv _ (nth_mem m1)) (by decide) (by decide)
  have d2:=c180 (nth l k) (nth l ((k + 1) % l.length)) (hv _ (nth_mem m2)) (hv _ (nth_mem hlt)) (by decide) (by decide)
  have hb:bendB l k = decide (dirR (pminus (nth l k) (nth l ((k + l.length - 1) % l.length))) ≠ dirR (pminus (nth l ((k + 1) % l.length)) (nth l k))):=rfl
  have hst:bendN l (k + 1) = bendN l k ++ if bendB l k = true then [nth l k] else []:=rfl
  generalize (k + l.length - 1) % l.length = i1 at *
  generalize (k + 1) % l.length = i2 at *
  simp (maxSteps:=999999) (disch:=first|exact {}|omega|simp) [Lw,Lm,Lt,Lo,Ln,allLen,hlt,g0,hnl,hne,e1,e2,g1,g2,m1,m2]
  refine CallK.of (d1) (by first | exact .inl rfl | exact .inr (by simp)) (by simp) ?_
  simp (maxSteps:=999999) (disch:=first|exact {}|omega|simp) [Lw,Lm,Lt,Lo,Ln,allLen,hlt,g0,hnl,hne,e1,e2,g1,g2,m1,m2]
  refine CallK.of (d2) (by first | exact .inl rfl | exact .inr (by simp)) (by simp) ?_
  simp (maxSteps:=999999) (disch:=first|exact {}|omega|simp) [Lw,Lm,Lt,Lo,Ln,allLen]
  (first | refine Gd.dec (fun u1=>?_) (fun u1=>?_) | refine Gd.intro (fun u1=>?_) (fun u1=>?_)) <;> simp (maxSteps:=999999) (disch:=first|exact {}|omega|simp) [Lw,Lm,Lt,Lo,Ln,allLen,u1]
  ·have hs:bendN l (k + 1) = bendN l k:=by rw [hst,hb,decide_eq_false (by simpa using u1)]; simp
   (refine ⟨⟨k + 1,by omega⟩,by (simp; try omega), ?_⟩; constructor <;> (simp (maxSteps:=999999) (disch:=first|exact {}|omega|simp) [Lw,Lm,Lt,Lo,Ln,allLen,hs]) <;> (try omega))
  ·have hs:bendN l (k + 1) = bendN l k ++ [nth l k]:=by rw [hst,hb,decide_eq_true u1]; simp
   have hs2:encPs (bendN l (k + 1)) = encPs (bendN l k) ++ [encP (nth l k)]:=by rw [hs]; simp [encPs]
   have hs3:(bendN l (k + 1)).length = (bendN l k).length + 1:=by rw [hs]; simp
   (refine ⟨⟨k + 1,by omega⟩,by (simp; try omega), ?_⟩; constructor <;> (simp (maxSteps:=999999) (disch:=first|exact {}|omega|simp) [Lw,Lm,Lt,Lo,Ln,allLen,hs2,hs3,tX]) <;> (try omega))
 ·obtain rfl:k = l.length:=by omega
  have tX:List.take (bendN l l.length).length (encPs (bendN l l.length)) = encPs (bendN l l.length):=List.take_of_length_le (by simp [encPs])
  simp (maxSteps:=999999) (disch:=first|exact {}|omega|simp) [Lw,Lm,Lt,Lo,Ln,allLen,tX]
end Go.Vai
set_option maxHeartbeats 4000000
namespace Go.Vai
theorem in_or {a b p:Pt} (ha:PK a) (hb:PK b) (hp:PK p) (hd:0 ≤ dirR (pminus b a)):nsign (ndot (vec ((dirR (pminus b a) + 4) % 16)) (pminus p a)) = ornt a b p:=by
 have A:=dseg ha hb hd
 have hw:PK (pminus p a):=pk_minus hp
 have hs:=sgnP_nsign (ndot (vec ((dirR (pminus b a) + 4) % 16)) (pminus p a))
 have hx:val (vec ((dirR (pminus b a) + 4) % 16)).x = -val (vec (dirR (pminus b a))).y ∧ val (vec ((dirR (pminus b a) + 4) % 16)).y = val (vec (dirR (pminus b a))).x:=by
  rw [vec_turn hd (dirR_range _).2]
  exact ⟨val_nneg _,rfl⟩
 rw [val_ndot (vec_k _) hw,show val (pminus p a).x = val p.x - val a.x from val_nsub hp.1 ha.1,show val (pminus p a).y = val p.y - val a.y from val_nsub hp.2 ha.2,hx.1,hx.2] at hs
 rw [or_sd ha hb hp hd]
 exact hs.eq (A.side p hp) (by grind)
end Go.Vai
namespace Go.Vai
def oneL (v:Nat) (c:Cr):List Nat:=if c.k = 1 then (if c.a.toNat = v then [c.b.toNat] else if c.b.toNat = v then [c.a.toNat] else []) else []
def nbL (cs:List Cr) (v:Nat):List Nat:=cs.flatMap (oneL v)
def bcnt (cs:List Cr):Nat:=(cs.filter fun c=>decide (c.k = 1)).length
theorem nbL_snoc (cs:List Cr) (c:Cr) (v:Nat):nbL (cs ++ [c]) v = nbL cs v ++ oneL v c:=by simp [nbL,List.flatMap_append]
theorem nbL_cons (c:Cr) (cs:List Cr) (v:Nat):nbL (c :: cs) v = oneL v c ++ nbL cs v:=by simp [nbL]
theorem one_mem {n v u:Nat} {c:Cr} (hc:Cin n c):u ∈ oneL v c ↔ c.k = 1 ∧ ((c.a.toNat = v ∧ c.b.toNat = u) ∨ (c.b.toNat = v ∧ c.a.toNat = u)):=by
 obtain ⟨a0,ab,bn⟩:=hc
 unfold oneL
 by_cases hk:c.k = 1
 ·rw [if_pos hk]
  by_cases h1:c.a.toNat = v
  ·rw [if_pos h1]; simp only [List.mem_singleton]
   constructor
   ·intro e; exact ⟨hk,.inl ⟨h1,e.symm⟩⟩
   ·rintro ⟨-,⟨-,e⟩ | ⟨e1,e2⟩⟩
    ·exact e.symm
    ·omega
  ·rw [if_neg h1]
   by_cases h2:c.b.toNat = v
   ·rw [if_pos h2]; simp only [List.mem_singleton]
    constructor
    ·intro e; exact ⟨hk,.inr ⟨h2,e.symm⟩⟩
    ·rintro ⟨-,⟨e,-⟩ | ⟨-,e⟩⟩
     ·exact absurd e h1
     ·exact e.symm
   ·rw [if_neg h2]
    simp [h1,h2]
 ·rw [if_neg hk]; simp [hk]
theorem nbL_mem {n v u:Nat} {cs:List Cr} (hc:∀ c ∈ cs,Cin n c):u ∈ nbL cs v ↔ ∃ c ∈ cs,c.k = 1 ∧ ((c.a.toNat = v ∧ c.b.toNat = u) ∨ (c.b.toNat = v ∧ c.a.toNat = u)):=by
 unfold nbL
 rw [List.mem_flatMap]
 constructor
 ·rintro ⟨c,h1,h2⟩; exact ⟨c,h1,(one_mem (hc c h1)).1 h2⟩
 ·rintro ⟨c,h1,h2⟩; exact ⟨c,h1,(one_mem (hc c h1)).2 h2⟩
def apart2 (c d:Cr):Prop:=¬ (c.a = d.a ∧ c.b = d.b)
theorem nbL_nodup {n:Nat}:∀ {cs:List Cr},(∀ c ∈ cs,Cin n c) → cs.Pairwise apart2 → ∀ v,(nbL cs v).Nodup
 | [],_,_,v=>by simp [nbL]
 | c :: cs,hc,hp,v=>by
  obtain ⟨h1,h2⟩:=List.pairwise_cons.1 hp
  have ih:=nbL_nodup (fun d hd=>hc d (by simp [hd])) h2 v
  rw [nbL_cons,List.nodup_append]
  refine ⟨?_,ih,fun x hx y hy=>?_⟩
  ·unfold oneL; split <;> (try split) <;> (try split) <;> simp
  ·rintro rfl
   have i1:=hc c (by simp)
   obtain ⟨-,e1⟩:=(one_mem i1).1 hx
   obtain ⟨d,hd,-,e2⟩:=(nbL_mem fun d hd=>hc d (by simp [hd])).1 hy
   have i2:=hc d (by simp [hd])
   obtain ⟨a0,ab,bn⟩:=i1
   obtain ⟨a0',ab',bn'⟩:=i2
   exact h1 d hd (by constructor <;> omega)
theorem lex_trans {p q r:Cr} (h1:lexB p q = true) (h2:lexB q r = true):lexB p r = true:=by
 simp only [lexB,Bool.or_eq_true,Bool.and_eq_true,decide_eq_true_eq] at *; omega
theorem nms_lex {ps:List Pt} {cs:List Cr} (h:nmsOk ps cs = true):∀ j i,i < j → j < cs.length → lexB (getK cs i) (getK cs j) = true
 | 0,i,hij,_=>by omega
 | j + 1,i,hij,hj=>by
  have hs:lexB (getK cs j) (getK cs (j + 1)) = true:=by
   unfold nmsOk at h
   rw [List.all_eq_true] at h
   have:=h (j + 1) (List.mem_range.2 hj)
   simpa [crNum] using (by simpa [crNum] using this:_ ∧ lexB (getK cs j) (getK cs (j + 1)) = true).2
  by_cases e:i = j
  ·subst e; exact hs
  ·exact lex_trans (nms_lex h j i (by omega) (by omega)) hs
theorem nms_pair {ps:List Pt} {cs:List Cr} (h:nmsOk ps cs = true):cs.Pairwise apart2:=by
 rw [List.pairwise_iff_getElem]
 intro i j hi hj hij e
 have:=nms_lex h j i hij hj
 rw [(getK_get hi).2,(getK_get hj).2] at this
 simp only [lexB,Bool.or_eq_true,Bool.and_eq_true,decide_eq_true_eq] at this; omega
theorem one_len {n:Nat} {c:Cr} (hc:Cin n c) (v:Nat):(oneL v c).length = (if v = c.a.toNat then (if c.k = 1 then 1 else 0) else 0) + (if v = c.b.toNat then (if c.k = 1 then 1 else 0) else 0):=by
 obtain ⟨a0,ab,bn⟩:=hc
 unfold oneL
 by_cases hk:c.k = 1
 ·rw [if_pos hk,if_pos hk]
  by_cases h1:v = c.a.toNat
  ·have h2:v ≠ c.b.toNat:=by omega
   rw [if_pos h1.symm,if_pos h1,if_neg h2]; rfl
  ·rw [if_neg (fun e=>h1 e.symm),if_neg h1]
   by_cases h2:v = c.b.toNat
   ·rw [if_pos h2.symm,if_pos h2]; rfl
   ·rw [if_neg (fun e=>h2 e.symm),if_neg h2]; rfl
 ·simp [hk]
theorem nb_sum {n:Nat}:∀ {cs:List Cr},(∀ c ∈ cs,Cin n c) → Wk.sumTo (fun v=>(nbL cs v).length) n = 2 * bcnt cs
 | [],_=>by simp [nbL,Wk.sumTo_zero,bcnt]
 | c :: cs,hc=>by
  have ih:=nb_sum (cs:=cs) (n:=n) fun d hd=>hc d (by simp [hd])
  have i1:=hc c (by simp)
  have e:(fun v=>(nbL (c :: cs) v).length) = fun v=>((if v = c.a.toNat then (if c.k = 1 then 1 else 0) else 0) + (if v = c.b.toNat then (if c.k = 1 then 1 else 0) else 0)) + (nbL cs v).length:=by
   funext v
   rw [nbL_cons,List.length_append,one_len i1]
  obtain ⟨a0,ab,bn⟩:=i1
  rw [e,Wk.sumTo_add (fun v=>(if v = c.a.toNat then (if c.k = 1 then 1 else 0) else 0) + (if v = c.b.toNat then (if c.k = 1 then 1 else 0) else 0)) (fun v=>(nbL cs v).length),Wk.sumTo_add (fun v=>if v = c.a.toNat then (if c.k = 1 then 1 else 0) else 0) (fun v=>if v = c.b.toNat then (if c.k = 1 then 1 else 0) else 0),Wk.sumTo_ind,Wk.sumTo_ind,if_pos (show c.a.toNat < n by omega),if_pos (show c.b.toNat < n by omega),ih]
  unfold bcnt
  rw [List.filter_cons]
  by_cases hk:c.k = 1
  ·simp [hk]; omega
  ·simp [hk]
theorem nb_gr {ps:List Pt} {cs:List Cr} (h:nmsOk ps cs = true):Wk.Gr ps.length (bcnt cs) (nbL cs):=by
 have hc:=nmsOk_cin h
 refine ⟨nbL_nodup hc (nms_pair h),fun v hv=>?_,fun u v hu=>?_,fun u v hu=>?_,nb_sum hc⟩
 ·obtain ⟨c,h1,-,h2⟩:=(nbL_mem hc).1 hv
  obtain ⟨a0,ab,bn⟩:=hc c h1
  omega
 ·obtain ⟨c,h1,hk,h2⟩:=(nbL_mem hc).1 hu
  exact (nbL_mem hc).2 ⟨c,h1,hk,by omega⟩
 ·obtain ⟨c,h1,-,h2⟩:=(nbL_mem hc).1 hu
  obtain ⟨a0,ab,bn⟩:=hc c h1
  omega
structure Bck (cs:List Cr) (m:Nat):Prop where
 m0:0 < m
 d:Wk.D (nbL cs) m
 z:Wk.w (nbL cs) m = 0
theorem Bck.uniq {cs:List Cr} {m m':Nat} (h:Bck cs m) (h':Bck cs m'):m = m':=by
 rcases Nat.lt_trichotomy m m' with hlt | he | hlt
 ·exact absurd h.z ((h'.d m hlt).2 h.m0)
 ·exact he
 ·exact absurd h'.z ((h.d m' hlt).2 h'.m0)
open Classical in
noncomputable def brdM (cs:List Cr):Nat:=if h:∃ m,Bck cs m then Classical.choose h else 0
theorem brdM_of {cs:List Cr} {m:Nat} (h:Bck cs m):brdM cs = m:=by
 have hx:∃ m,Bck cs m:=⟨m,h⟩
 unfold brdM
 rw [dif_pos hx]
 exact (Classical.choose_spec hx).uniq h
theorem brdM_no {cs:List Cr} (h:¬ ∃ m,Bck cs m):brdM cs = 0:=by
 unfold brdM
 rw [dif_neg h]
def rngI (cs:List Cr) (m:Nat):List Int:=(List.range m).map fun k=>(Wk.w (nbL cs) k:Int)
theorem rngI_len (cs:List Cr) (m:Nat):(rngI cs m).length = m:=by simp [rngI]
theorem rngI_snoc (cs:List Cr) (m:Nat):rngI cs (m + 1) = rngI cs m ++ [(Wk.w (nbL cs) m:Int)]:=by simp [rngI,List.range_succ]
theorem rngI_get (cs:List Cr) {m k:Nat} (h:k < m):(rngI cs m)[k]? = some (Wk.w (nbL cs) k:Int):=by simp [rngI,h]
noncomputable def rndI (cs:List Cr):List Int:=rngI cs (brdM cs)
noncomputable def okR (cs:List Cr):Bool:=decide (0 < brdM cs) && decide (brdM cs = bcnt cs)
def degB (n:Nat) (cs:List Cr):Bool:=(List.range n).all (fun v=>decide ((nbL cs v).length = 0) || decide ((nbL cs v).length = 2)) && (decide (0 < n) && decide ((nbL cs 0).length = 2))
theorem degB_iff {n:Nat} {cs:List Cr}:degB n cs = true ↔ (∀ v,v < n → (nbL cs v).length = 0 ∨ (nbL cs v).length = 2) ∧ 0 < n ∧ (nbL cs 0).length = 2:=by
 unfold degB
 simp only [Bool.and_eq_true,List.all_eq_true,Bool.or_eq_true,decide_eq_true_eq,List.mem_range]
theorem okR_deg {ps:List Pt} {cs:List Cr} (h:nmsOk ps cs = true) (hn:0 < ps.length) (ho:okR cs = true):degB ps.length cs = true:=by
 unfold okR at ho
 rw [Bool.and_eq_true,decide_eq_true_eq,decide_eq_true_eq] at ho
 have hx:∃ m,Bck cs m:=Classical.byContradiction fun hno=>by rw [brdM_no hno] at ho; omega
 obtain ⟨m,hm⟩:=hx
 rw [brdM_of hm] at ho
 have:=Wk.ring_le (nb_gr h) hn hm.d
 exact degB_iff.2 ⟨this.2 ho.2,hn,(hm.d 0 hm.m0).1⟩
theorem deg_bck {ps:List Pt} {cs:List Cr} (h:nmsOk ps cs = true) (hd:degB ps.length cs = true):Bck cs (brdM cs):=by
 obtain ⟨h1,h2,h3⟩:=degB_iff.1 hd
 obtain ⟨m,m3,-,hD,hz⟩:=Wk.back (nb_gr h) h2 h3 h1
 have:Bck cs m:=⟨by omega,hD,hz⟩
 rw [brdM_of this]; exact this
theorem bck_three {ps:List Pt} {cs:List Cr} (h:nmsOk ps cs = true) {m:Nat} (hb:Bck cs m):3 ≤ m:=Wk.three (nb_gr h) hb.m0 hb.d hb.z
theorem bck_le {ps:List Pt} {cs:List Cr} (h:nmsOk ps cs = true) (hn:0 < ps.length) {m:Nat} (hd:Wk.D (nbL cs) m):m ≤ bcnt cs:=(Wk.ring_le (nb_gr h) hn hd).1
def isB (cs:List Cr) (v:Int) (i:Nat):Bool:=decide ((getK cs i).k = 1) && (decide ((getK cs i).a = v) || decide ((getK cs i).b = v))
theorem isB_iff {cs:List Cr} {v:Int} {i:Nat}:isB cs v i = true ↔ (getK cs i).k = 1 ∧ ((getK cs i).a = v ∨ (getK cs i).b = v):=by
 unfold isB; simp only [Bool.and_eq_true,Bool.or_eq_true,decide_eq_true_eq]
theorem getK_mem {cs:List Cr} {i:Nat} (hi:i < cs.length):getK cs i ∈ cs:=by rw [(getK_get hi).2]; exact List.getElem_mem hi
theorem isB_nb {n:Nat} {cs:List Cr} (hc:∀ c ∈ cs,Cin n c) {v i:Nat} (hi:i < cs.length) (h:isB cs v i = true):∃ u:Nat,(getK cs i).a + (getK cs i).b - v = u ∧ u ∈ nbL cs v ∧ isB cs u i = true:=by
 obtain ⟨hk,h1⟩:=isB_iff.1 h
 obtain ⟨a0,ab,bn⟩:=hc _ (getK_mem hi)
 refine ⟨((getK cs i).a + (getK cs i).b - v).toNat,by omega,(nbL_mem hc).2 ⟨_,getK_mem hi,hk,by omega⟩,isB_iff.2 ⟨hk,by omega⟩⟩
theorem nb_isB {n:Nat} {cs:List Cr} (hc:∀ c ∈ cs,Cin n c) {v u:Nat} (h:u ∈ nbL cs v):∃ i,i < cs.length ∧ isB cs v i = true ∧ (getK cs i).a + (getK cs i).b - v = u:=by
 obtain ⟨c,h1,hk,h2⟩:=(nbL_mem hc).1 h
 obtain ⟨i,hi,rfl⟩:=List.getElem_of_mem h1
 obtain ⟨a0,ab,bn⟩:=hc _ h1
 rw [← (getK_get hi).2] at *
 exact ⟨i,hi,isB_iff.2 ⟨hk,by omega⟩,by omega⟩
theorem isB_inj {ps:List Pt} {cs:List Cr} (h:nmsOk ps cs = true) {v i j:Nat} (hi:i < cs.length) (hj:j < cs.length) (h1:isB cs v i = true) (h2:isB cs v j = true) (he:(getK cs i).a + (getK cs i).b = (getK cs j).a + (getK cs j).b):i = j:=by
 have hc:=nmsOk_cin h
 obtain ⟨-,g1⟩:=isB_iff.1 h1
 obtain ⟨-,g2⟩:=isB_iff.1 h2
 obtain ⟨a0,ab,bn⟩:=hc _ (getK_mem hi)
 obtain ⟨a0',ab',bn'⟩:=hc _ (getK_mem hj)
 rcases Nat.lt_trichotomy i j with hlt | e | hlt
 ·have:=nms_lex h j i hlt hj
  simp only [lexB,Bool.or_eq_true,Bool.and_eq_true,decide_eq_true_eq] at this; omega
 ·exact e
 ·have:=nms_lex h i j hlt hi
  simp only [lexB,Bool.or_eq_true,Bool.and_eq_true,decide_eq_true_eq] at this; omega
theorem nb_head {n:Nat} {cs:List Cr} (hc:∀ c ∈ cs,Cin n c) {v i u:Nat} (hi:i < cs.length) (h:isB cs v i = true) (hu:(getK cs i).a + (getK cs i).b - v = u) (hno:∀ j,j < i → ¬ isB cs v j = true):(nbL cs v).getD 0 0 = u:=by
 have e:cs = cs.take i ++ getK cs i :: cs.drop (i + 1):=by
  rw [(getK_get hi).2,← List.drop_eq_getElem_cons hi,List.take_append_drop]
 have h0:nbL (cs.take i) v = []:=by
  unfold nbL
  rw [List.flatMap_eq_nil_iff]
  intro c hcm
  obtain ⟨j,hj,rfl⟩:=List.getElem_of_mem hcm
  rw [List.length_take] at hj
  have hjl:j < cs.length:=by omega
  have hn:=hno j (by omega)
  rw [isB_iff,(getK_get hjl).2] at hn
  obtain ⟨a0,ab,bn⟩:=hc _ (List.getElem_mem hjl)
  rw [List.getElem_take]
  unfold oneL
  by_cases hk:(cs[j]).k = 1
  ·rw [if_pos hk,if_neg (fun e=>hn ⟨hk,by omega⟩),if_neg (fun e=>hn ⟨hk,by omega⟩)]
  ·rw [if_neg hk]
 obtain ⟨hk,h1⟩:=isB_iff.1 h
 obtain ⟨a0,ab,bn⟩:=hc _ (getK_mem hi)
 rw [e,nbL,List.flatMap_append,← nbL,h0,List.nil_append,List.flatMap_cons]
 have:oneL v (getK cs i) = [u]:=by
  unfold oneL
  rw [if_pos hk]
  by_cases e1:(getK cs i).a.toNat = v
  ·rw [if_pos e1]; congr 1; omega
  ·rw [if_neg e1,if_pos (by omega)]; congr 1; omega
 rw [this]; rfl
def Fst (cs:List Cr) (last v:Int) (k:Nat) (x:Int):Prop :=
 (x = -1 ∧ ∀ j:Nat,j < k → ¬ (isB cs v j = true ∧ (j:Int) ≠ last)) ∨ ∃ i:Nat,x = i ∧ i < k ∧ (isB cs v i = true ∧ (i:Int) ≠ last) ∧ ∀ j:Nat,j < i → ¬ (isB cs v j = true ∧ (j:Int) ≠ last)
theorem Fst.start (cs:List Cr) (last v:Int):Fst cs last v 0 (-1):=.inl ⟨rfl,fun j hj=>by omega⟩
theorem Fst.stay {cs:List Cr} {last v:Int} {k:Nat} {x:Int} (h:Fst cs last v k x) (hs:0 ≤ x ∨ ¬ (isB cs v k = true ∧ (k:Int) ≠ last)):Fst cs last v (k + 1) x:=by
 rcases h with ⟨rfl,h⟩ | ⟨i,rfl,h1,h2,h3⟩
 ·refine .inl ⟨rfl,fun j hj=>?_⟩
  by_cases e:j = k
  ·subst e; exact hs.resolve_left (by omega)
  ·exact h j (by omega)
 ·exact .inr ⟨i,rfl,by omega,h2,h3⟩
theorem Fst.take {cs:List Cr} {last v:Int} {k:Nat} {x:Int} (h:Fst cs last v k x) (hx:x < 0) (hs:isB cs v k = true ∧ (k:Int) ≠ last):Fst cs last v (k + 1) k:=by
 rcases h with ⟨rfl,h⟩ | ⟨i,rfl,h1,h2,h3⟩
 ·exact .inr ⟨k,rfl,by omega,hs,fun j hj=>h j hj⟩
 ·omega
def LastOk (cs:List Cr) (m:Nat) (last:Int):Prop :=
 (m = 1 ∧ last = -1) ∨ ∃ (i p:Nat),m = p + 2 ∧ last = i ∧ i < cs.length ∧ isB cs (Wk.w (nbL cs) (p + 1)) i = true ∧ (getK cs i).a + (getK cs i).b - Wk.w (nbL cs) (p + 1) = Wk.w (nbL cs) p
theorem Fst.next {ps:List Pt} {cs:List Cr} (h:nmsOk ps cs = true) {M m:Nat} (hb:Bck cs M) (hm0:0 < m) (hm:m ≤ M) {last x:Int} (hl:LastOk cs m last) (hx:Fst cs last (Wk.w (nbL cs) (m - 1)) cs.length x) :
  ∃ i:Nat,x = i ∧ i < cs.length ∧ (getK cs i).a + (getK cs i).b - Wk.w (nbL cs) (m - 1) = Wk.w (nbL cs) m ∧ LastOk cs (m + 1) x:=by
 have hc:=nmsOk_cin h
 have G:=nb_gr h
 have hnb:=Wk.w_nb G hb.d (m - 1) (by omega)
 rw [show m - 1 + 1 = m by omega] at hnb
 rcases hl with ⟨rfl,rfl⟩ | ⟨e,p,rfl,rfl,hel,he1,he2⟩
 ·simp only [Nat.sub_self] at *
  rcases hx with ⟨rfl,hno⟩ | ⟨i,rfl,hi,⟨h1,-⟩,hno⟩
  ·obtain ⟨j,hj,g1,-⟩:=nb_isB hc hnb
   exact absurd ⟨g1,by omega⟩ (hno j hj)
  ·obtain ⟨u,hu,hun,hui⟩:=isB_nb hc hi h1
   have hh:=nb_head hc hi h1 hu fun j hj hB=>hno j hj ⟨hB,by omega⟩
   have hw:Wk.w (nbL cs) 1 = u:=hh
   exact ⟨i,rfl,hi,by rw [hu,hw],.inr ⟨i,0,rfl,rfl,hi,by rw [show 0 + 1 = 1 from rfl,hw]; exact hui,by rw [show 0 + 1 = 1 from rfl,hw]; omega⟩⟩
 ·simp only [show p + 2 - 1 = p + 1 by omega] at *
  obtain ⟨w1,w2⟩:=Wk.w_ne G hb.d (k:=p) (by omega)
  rcases hx with ⟨rfl,hno⟩ | ⟨i,rfl,hi,⟨h1,hne⟩,hno⟩
  ·obtain ⟨j,hj,g1,g2⟩:=nb_isB hc hnb
   refine absurd ⟨g1,fun e'=>?_⟩ (hno j hj)
   obtain rfl:j = e:=by omega
   rw [he2] at g2
   exact w1 (by omega)
  ·obtain ⟨u,hu,hun,hui⟩:=isB_nb hc hi h1
   have hw:u = Wk.w (nbL cs) (p + 2):=(w2 u hun).resolve_left fun e'=>hne (by
    have:=isB_inj h hi hel h1 he1 (by omega)
    rw [this])
   subst hw
   exact ⟨i,rfl,hi,hu,.inr ⟨i,p + 1,rfl,rfl,hi,hui,by show _ - (Wk.w (nbL cs) (p + 2):Int) = _; omega⟩⟩
end Go.Vai
set_option maxHeartbeats 8000000
namespace Go.Vai
open Pq
theorem anyF_of {α:Type} {p:α → Bool} {l:List α} (h:∀ (j:Nat) (hj:j < l.length),p l[j] = false):l.any p = false:=by
 rw [List.any_eq_false]
 intro x hx
 obtain ⟨j,hj,rfl⟩:=List.getElem_of_mem hx
 simp [h j hj]
theorem h155 (l:List Int) (n:Int) (h:(l.length:Int) ≤ 1048576):PC E 155 [.i (.sl (l.map encI)),.i (.int .i64 n)] [.i (.bool (l.any fun x=>decide (x = n)))]:=by
 refine PC_start hE Proofs.Tryz.func155 rfl rfl Proofs.Tryz.ntmps155 (by kernel_rfl) (by kernel_rfl) (by simp) ?_
 simp (maxSteps:=999999) (disch:=first|exact {}|omega|simp) [Lw,Lm,Lt,Lo,Ln,allLen]
 refine XL.by hE (ι:={ k:Nat // k ≤ l.length ∧ ∀ (j:Nat) (hj:j < l.length),j < k → decide (l[j] = n) = false }) (fun k=>⟨[(0,.i (.sl (l.map encI))),(1,.i (.int .i64 n)),(5,.i (.int .i64 k.1))],[]⟩)
  (fun k=>l.length - k.1) ⟨0,Nat.zero_le _,by simp⟩ ⟨by simp,by simp,by simp⟩ (by kernel_rfl) ?_
 rintro ⟨k,hk,hno⟩
 by_cases hlt:k < l.length
 ·simp (maxSteps:=999999) (disch:=first|exact {}|omega|simp) [Lw,Lm,Lt,Lo,Ln,allLen,hlt,encI]
  (first | refine Gd.dec (fun h4=>?_) (fun h4=>?_) | refine Gd.intro (fun h4=>?_) (fun h4=>?_)) <;> simp (maxSteps:=999999) (disch:=first|exact {}|omega|simp) [Lw,Lm,Lt,Lo,Ln,allLen,h4]
  ·subst h4; simp
  ·(refine ⟨⟨k + 1,by omega,step_no (p:=fun x=>decide (x = n)) hno hlt (by simp [h4])⟩,by (simp; try omega), ?_⟩; constructor <;> (simp (maxSteps:=999999) (disch:=first|exact {}|omega|simp) [Lw,Lm,Lt,Lo,Ln,allLen]) <;> (try omega))
 ·have:=anyF_of (p:=fun x=>decide (x = n)) (l:=l) fun j hj=>hno j hj (by omega)
  rw [List.any_eq_false] at this
  simp (maxSteps:=999999) (disch:=first|exact {}|omega|simp) [Lw,Lm,Lt,Lo,Ln,allLen,hlt]
  simpa using this
def LI (L:List Nat):List Int:=L.map fun v:Nat=>(v:Int)
@[simp] theorem LI_len (L:List Nat):(LI L).length = L.length:=by simp [LI]
theorem LI_snoc (L:List Nat) (v:Nat):LI (L ++ [v]) = LI L ++ [(v:Int)]:=by simp [LI]
theorem LI_has (L:List Nat) {x:Int} (hx:0 ≤ x):((LI L).any fun y=>decide (y = x)) = decide (x.toNat ∈ L):=by
 rw [Bool.eq_iff_iff,List.any_eq_true,decide_eq_true_eq]
 simp only [LI,List.mem_map,decide_eq_true_eq]
 constructor
 ·rintro ⟨y,⟨v,hv,rfl⟩,rfl⟩; simpa using hv
 ·intro h; exact ⟨(x.toNat:Int),⟨x.toNat,h,rfl⟩,by omega⟩
theorem See.len_le {n:Nat} {cs:List Cr} {L:List Nat} (h:See n cs L):L.length ≤ n:=by
 have hs:=Wk.sumTo_mem (n:=n) h.nd h.bd
 have:=Wk.sumTo_le (f:=fun v=>if v ∈ L then 2 else 0) (g:=fun _=>2) (fun v=>by split <;> omega) n
 rw [hs,sum_two] at this
 omega
def Cl1 (cs:List Cr) (L:List Nat) (u i:Nat):Prop:=∀ j,j < i → ((getK cs j).a.toNat = u → (getK cs j).b.toNat ∈ L) ∧ ((getK cs j).b.toNat = u → (getK cs j).a.toNat ∈ L)
theorem Cl1.mono {cs:List Cr} {L L':List Nat} {u i:Nat} (h:Cl1 cs L u i) (hL:∀ v ∈ L,v ∈ L'):Cl1 cs L' u i:=fun j hj=>⟨fun e=>hL _ ((h j hj).1 e),fun e=>hL _ ((h j hj).2 e)⟩
theorem Cl1.next {cs:List Cr} {L:List Nat} {u i:Nat} (h:Cl1 cs L u i) (h1:(getK cs i).a.toNat = u → (getK cs i).b.toNat ∈ L) (h2:(getK cs i).b.toNat = u → (getK cs i).a.toNat ∈ L):Cl1 cs L u (i + 1):=fun j hj=>by
 by_cases e:j = i
 ·subst e; exact ⟨h1,h2⟩
 ·exact h j (by omega)
def Cls (cs:List Cr) (L:List Nat) (k:Nat):Prop:=∀ (j u:Nat),j < k → L[j]? = some u → Cl1 cs L u cs.length
theorem Cls.done {n:Nat} {cs:List Cr} {L:List Nat} (hS:See n cs L) (h:Cls cs L L.length):conB n cs = decide (L.length = n):=by
 refine hS.done fun c hc=>?_
 obtain ⟨i,hi,rfl⟩:=List.getElem_of_mem hc
 rw [← (getK_get hi).2]
 constructor
 ·intro hm
  obtain ⟨j,hj,he⟩:=List.getElem_of_mem hm
  exact (h j _ hj (by rw [List.getElem?_eq_getElem hj,he]) i hi).1 rfl
 ·intro hm
  obtain ⟨j,hj,he⟩:=List.getElem_of_mem hm
  exact (h j _ hj (by rw [List.getElem?_eq_getElem hj,he]) i hi).2 rfl
theorem pre_get {L L' t:List Nat} (h:L' = L ++ t) {j:Nat} (hj:j < L.length):L'[j]? = L[j]?:=by rw [h,List.getElem?_append_left hj]
theorem c102 (ps:List Pt) (cs:List Cr) (hcin:∀ c ∈ cs,Cin ps.length c) (hn:0 < ps.length) (h:(ps.length:Int) ≤ 1048576) (hc:(cs.length:Int) ≤ 1048576) :
  PC E 102 [.i (.ptr (encPa ps cs))] [.i (.bool (conB ps.length cs))]:=by
 refine PC_start hE Proofs.Tryz.func102 rfl rfl Proofs.Tryz.ntmps102 (by kernel_rfl) (by kernel_rfl) (by simp) ?_
 simp (maxSteps:=999999) (disch:=first|exact {}|omega|simp) [Lw,Lm,Lt,Lo,Ln,allLen,encPa]
 refine XL.by hE (ι:={ p:List Nat × Nat // See ps.length cs p.1 ∧ p.2 ≤ p.1.length ∧ Cls cs p.1 p.2 }) (fun p=>⟨[(0,.i (.ptr (encPa ps cs))),(3,.own 7 0 p.1.1.length),(4,.i (.int .i64 p.1.2))],[(7,⟨1,(LI p.1.1).map encI⟩)]⟩)
  (fun p=>ps.length - p.1.2) ⟨([0],0),See.start hn cs,Nat.zero_le _,fun j u hj=>absurd hj (Nat.not_lt_zero _)⟩ ⟨by simp [encPa],by simp [LI,encI],by simp⟩ (by kernel_rfl) ?_
 rintro ⟨⟨L,k⟩,hS,hk,hC⟩
 simp only at hS hk hC
 have hLn:=hS.len_le
 by_cases hlt:k < L.length
 ·simp (maxSteps:=999999) (disch:=first|exact {}|omega|simp) [Lw,Lm,Lt,Lo,Ln,allLen,hlt,encPa]
  refine XL.by hE (ι:={ p:List Nat × Nat // See ps.length cs p.1 ∧ (∃ t,p.1 = L ++ t) ∧ p.2 ≤ cs.length ∧ Cl1 cs p.1 L[k] p.2 }) (fun p=>⟨[(0,.i (.ptr (encPa ps cs))),(3,.own 7 0 p.1.1.length),(4,.i (.int .i64 k)),(5,.i (.int .i64 p.1.2))],[(7,⟨1,(LI p.1.1).map encI⟩)]⟩)
   (fun p=>cs.length - p.1.2) ⟨(L,0),hS,⟨[],by simp⟩,Nat.zero_le _,fun j hj=>absurd hj (Nat.not_lt_zero _)⟩ ⟨by simp [encPa],by simp,by simp⟩ (by kernel_rfl) ?_
  rintro ⟨⟨M,i⟩,hS2,⟨t,ht⟩,hi,hD⟩
  simp only at hS2 ht hi hD
  have hMn:=hS2.len_le
  have hkM:k < M.length:=by rw [ht,List.length_append]; omega
  have hgM:M[k]? = some L[k]:=by rw [pre_get ht hlt,List.getElem?_eq_getElem hlt]
  have huM:L[k] ∈ M:=List.mem_of_getElem? hgM
  by_cases hil:i < cs.length
  ·obtain ⟨hg,he⟩:=getK_get hil
   have hci:=hcin _ (List.getElem_mem hil)
   have hmem:getK cs i ∈ cs:=by rw [he]; exact List.getElem_mem hil
   rw [← he] at hci
   have hun:=hS2.bd _ huM
   have hadd:=fun (v:Nat) (hv:v < ps.length) (hno:v ∉ M)=>hS2.add huM hv hno hmem
   have hnx:=fun (M':List Nat) (hM':∀ v ∈ M,v ∈ M')=>(hD.mono hM').next (i:=i)
   have hgL:((LI M).map encI)[k]? = some [.int .i64 (L[k]:Int)]:=by
    simp only [LI,List.map_map,List.getElem?_map,hgM]; rfl
   have hgL2:=(List.getElem?_eq_some_iff.1 hgL).2
   clear he hmem
   generalize hcc:getK cs i = c at *
   obtain ⟨a0,ab,bn⟩:=hci
   generalize hu:L[k] = u at *
   have hMt:List.take M.length ((LI M).map encI) = (LI M).map encI:=List.take_of_length_le (by simp)
   have hasb:=LI_has M (x:=c.b) (by omega)
   have hasa:=LI_has M (x:=c.a) a0
   by_cases h1:c.a = (u:Int)
   ·have h2:¬ c.b = (u:Int):=by omega
    by_cases hb:c.b.toNat ∈ M
    ·rw [decide_eq_true hb] at hasb
     simp (maxSteps:=999999) (disch:=first|exact {}|omega|simp) [Lw,Lm,Lt,Lo,Ln,allLen,hil,hg,encK,hkM,hgL,hgL2,h1,hMt,encPa]
     refine CallK.of (h155 (LI M) c.b (by simp; omega)) (by first | exact .inl rfl | exact .inr (by simp)) (by simp) ?_
     simp (maxSteps:=999999) (disch:=first|exact {}|omega|simp) [Lw,Lm,Lt,Lo,Ln,allLen,hasb,hil,hg,encK,hkM,hgL,hgL2,h1,h2,hMt,encPa]
     (refine ⟨⟨(M,i + 1),hS2,⟨t,ht⟩,by simp; omega,hnx M (fun _ h=>h) (fun _=>hb) (fun e=>absurd e (by omega))⟩,by (simp; try omega), ?_⟩; constructor <;> (simp (maxSteps:=999999) (disch:=first|exact {}|omega|simp) [Lw,Lm,Lt,Lo,Ln,allLen,encPa]) <;> (try omega))
    ·rw [decide_eq_false hb] at hasb
     have hS3:=hadd c.b.toNat (by omega) hb (.inl ⟨by omega,rfl⟩)
     have hbc:((c.b.toNat:Nat):Int) = c.b:=by omega
     have hgk:(((LI M).map encI) ++ [[.int .i64 c.b]])[k]? = some [.int .i64 (u:Int)]:=by
      rw [List.getElem?_append_left (by simpa using hkM)]; exact hgL
     have hgk2:=(List.getElem?_eq_some_iff.1 hgk).2
     have hle:=hS3.len_le
     simp at hle
     simp (maxSteps:=999999) (disch:=first|exact {}|omega|simp) [Lw,Lm,Lt,Lo,Ln,allLen,hil,hg,encK,hkM,hgL,hgL2,h1,hMt,encPa]
     refine CallK.of (h155 (LI M) c.b (by simp; omega)) (by first | exact .inl rfl | exact .inr (by simp)) (by simp) ?_
     simp (maxSteps:=999999) (disch:=first|exact {}|omega|simp) [Lw,Lm,Lt,Lo,Ln,allLen,hasb,hil,hg,encK,hkM,hgL,hgL2,h1,h2,hMt,hgk,hgk2,encPa]
     (refine ⟨⟨(M ++ [c.b.toNat],i + 1),hS3,⟨t ++ [c.b.toNat],by rw [ht,List.append_assoc]⟩,by simp; omega,hnx _ (fun v h=>List.mem_append.2 (.inl h)) (fun _=>by simp) (fun e=>absurd e (by omega))⟩,by (simp; try omega), ?_⟩; constructor <;> (simp (maxSteps:=999999) (disch:=first|exact {}|omega|simp) [Lw,Lm,Lt,Lo,Ln,allLen,encPa,LI_snoc,hbc,encI,hMt]) <;> (try omega))
   ·by_cases h2:c.b = (u:Int)
    ·by_cases ha:c.a.toNat ∈ M
     ·rw [decide_eq_true ha] at hasa
      simp (maxSteps:=999999) (disch:=first|exact {}|omega|simp) [Lw,Lm,Lt,Lo,Ln,allLen,hil,hg,encK,hkM,hgL,hgL2,h1,h2,hMt,encPa]
      refine CallK.of (h155 (LI M) c.a (by simp; omega)) (by first | exact .inl rfl | exact .inr (by simp)) (by simp) ?_
      simp (maxSteps:=999999) (disch:=first|exact {}|omega|simp) [Lw,Lm,Lt,Lo,Ln,allLen,hasa,hil,hg,encK,hkM,hgL,hgL2,h1,h2,hMt,encPa]
      (refine ⟨⟨(M,i + 1),hS2,⟨t,ht⟩,by simp; omega,hnx M (fun _ h=>h) (fun e=>absurd e (by omega)) (fun _=>ha)⟩,by (simp; try omega), ?_⟩; constructor <;> (simp (maxSteps:=999999) (disch:=first|exact {}|omega|simp) [Lw,Lm,Lt,Lo,Ln,allLen,encPa]) <;> (try omega))
     ·rw [decide_eq_false ha] at hasa
      have hS3:=hadd c.a.toNat (by omega) ha (.inr ⟨rfl,by omega⟩)
      have hac:((c.a.toNat:Nat):Int) = c.a:=by omega
      have hle:=hS3.len_le
      simp at hle
      simp (maxSteps:=999999) (disch:=first|exact {}|omega|simp) [Lw,Lm,Lt,Lo,Ln,allLen,hil,hg,encK,hkM,hgL,hgL2,h1,h2,hMt,encPa]
      refine CallK.of (h155 (LI M) c.a (by simp; omega)) (by first | exact .inl rfl | exact .inr (by simp)) (by simp) ?_
      simp (maxSteps:=999999) (disch:=first|exact {}|omega|simp) [Lw,Lm,Lt,Lo,Ln,allLen,hasa,hil,hg,encK,hkM,hgL,hgL2,h1,h2,hMt,encPa]
      (refine ⟨⟨(M ++ [c.a.toNat],i + 1),hS3,⟨t ++ [c.a.toNat],by rw [ht,List.append_assoc]⟩,by simp; omega,hnx _ (fun v h=>List.mem_append.2 (.inl h)) (fun e=>absurd e (by omega)) (fun _=>by simp)⟩,by (simp; try omega), ?_⟩; constructor <;> (simp (maxSteps:=999999) (disch:=first|exact {}|omega|simp) [Lw,Lm,Lt,Lo,Ln,allLen,encPa,LI_snoc,hac,encI,hMt]) <;> (try omega))
    ·simp (maxSteps:=999999) (disch:=first|exact {}|omega|simp) [Lw,Lm,Lt,Lo,Ln,allLen,hil,hg,encK,hkM,hgL,hgL2,h1,h2,hMt,encPa]
     (refine ⟨⟨(M,i + 1),hS2,⟨t,ht⟩,by simp; omega,hnx M (fun _ h=>h) (fun e=>absurd e (by omega)) (fun e=>absurd e (by omega))⟩,by (simp; try omega), ?_⟩; constructor <;> (simp (maxSteps:=999999) (disch:=first|exact {}|omega|simp) [Lw,Lm,Lt,Lo,Ln,allLen,encPa]) <;> (try omega))
  ·obtain rfl:i = cs.length:=by omega
   have hC2:Cls cs M (k + 1):=fun j u hj hu=>by
    by_cases e:j = k
    ·subst e; rw [hgM] at hu; obtain rfl:=Option.some.inj hu; exact hD
    ·rw [pre_get ht (by omega)] at hu
     exact (hC j u (by omega) hu).mono fun v hv=>by rw [ht]; exact List.mem_append.2 (.inl hv)
   simp (maxSteps:=999999) (disch:=first|exact {}|omega|simp) [Lw,Lm,Lt,Lo,Ln,allLen,encPa]
   (refine ⟨⟨(M,k + 1),hS2,by simp; omega,hC2⟩,by (simp; try omega), ?_⟩; constructor <;> (simp (maxSteps:=999999) (disch:=first|exact {}|omega|simp) [Lw,Lm,Lt,Lo,Ln,allLen,encPa]) <;> (try omega))
 ·obtain rfl:k = L.length:=by omega
  have hd:=hC.done hS
  by_cases e:L.length = ps.length
  ·rw [decide_eq_true e] at hd
   simp (maxSteps:=999999) (disch:=first|exact {}|omega|simp) [Lw,Lm,Lt,Lo,Ln,allLen,hd,e,encPa]
  ·rw [decide_eq_false e] at hd
   simp (maxSteps:=999999) (disch:=first|exact {}|omega|simp) [Lw,Lm,Lt,Lo,Ln,allLen,hd,e,encPa]
end Go.Vai
