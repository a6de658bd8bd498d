/- Texts of this claim: Zq12, Zq13, Zq14, Zq15, Zq16, Zq17, Zq18, Zq19, Zq20, Zq21, Zq22, Zw5, Zq23, Zq24. -/
import Derived.Test.YtiipeibaiphmpaaGreatDoorTb44
import Derived.Test.YtiipeibaiphmpaaGreatDoorTb42
import Derived.Test.YtiipeibaiphmpaaGreatDoorTb32
import Derived.Test.YtiipeibaiphmpaaGreatDoorTb52
set_option linter.unusedVariables false
set_option linter.unusedSimpArgs false
set_option maxHeartbeats 8000000
set_option maxRecDepth 20000
namespace Go.Vai
open Pq
def Clo (cs:List Cr) (S:Nat → Bool):Prop:=S 0 = true ∧ ∀ c ∈ cs,S c.a.toNat = S c.b.toNat
def Con (n:Nat) (cs:List Cr):Prop:=∀ S:Nat → Bool,Clo cs S → ∀ i,i < n → S i = true
open Classical in
noncomputable def conB (n:Nat) (cs:List Cr):Bool:=decide (Con n cs)
def encB (b:Bool):List IV:=[.bool b]
def nf:List Bool → Nat
 | []=>0
 | b :: t=>(if b = true then 0 else 1) + nf t
theorem nf_le:∀ (R:List Bool) (i:Nat),nf (R.set i true) ≤ nf R
 | [],i=>by simp [nf]
 | b :: t,0=>by simp only [List.set_cons_zero,nf,if_true]; omega
 | b :: t,i + 1=>by have:=nf_le t i; simp only [List.set_cons_succ,nf]; omega
theorem nf_lt:∀ (R:List Bool) (i:Nat),R.getD i true = false → nf (R.set i true) < nf R
 | [],i,h=>by simp at h
 | b :: t,0,h=>by
  simp only [List.getD_cons_zero] at h
  subst h
  simp only [List.set_cons_zero,nf]; simp
 | b :: t,i + 1,h=>by
  have:=nf_lt t i (by simpa using h)
  simp only [List.set_cons_succ,nf]; omega
structure Rch (n:Nat) (cs:List Cr) (R:List Bool):Prop where
 len:R.length = n
 z:R.getD 0 false = true
 min:∀ S,Clo cs S → ∀ i,R.getD i false = true → S i = true
theorem getD_set {R:List Bool} {a i:Nat} (h:(R.set a true).getD i false = true):i = a ∨ R.getD i false = true:=by
 by_cases e:i = a
 ·exact .inl e
 ·right
  simpa [List.getD_eq_getElem?_getD,List.getElem?_set_ne (fun h=>e h.symm)] using h
theorem getD_set' {R:List Bool} {a i:Nat} (h:R.getD i false = true):(R.set a true).getD i false = true:=by
 have hi:i < R.length:=Classical.byContradiction fun hn=>by
  rw [List.getD_eq_getElem?_getD,List.getElem?_eq_none (by omega)] at h; simp at h
 by_cases e:a = i
 ·subst e; simp [List.getD_eq_getElem?_getD,hi]
 ·simpa [List.getD_eq_getElem?_getD,List.getElem?_set_ne e] using h
theorem Rch.both {n:Nat} {cs:List Cr} {R:List Bool} (h:Rch n cs R) {c:Cr} (hc:c ∈ cs) (hne:R.getD c.a.toNat false = true ∨ R.getD c.b.toNat false = true):Rch n cs ((R.set c.a.toNat true).set c.b.toNat true):=by
 refine ⟨by simp [h.len],getD_set' (getD_set' h.z),fun S hS i hi=>?_⟩
 have hab:=hS.2 c hc
 have hA:S c.a.toNat = true ∧ S c.b.toNat = true:=by
  rcases hne with g | g
  ·have:=h.min S hS _ g
   exact ⟨this,by rw [← hab]; exact this⟩
  ·have:=h.min S hS _ g
   exact ⟨by rw [hab]; exact this,this⟩
 rcases getD_set hi with rfl | hi
 ·exact hA.2
 ·rcases getD_set hi with rfl | hi
  ·exact hA.1
  ·exact h.min S hS i hi
open Classical in
theorem Rch.done {n:Nat} {cs:List Cr} {R:List Bool} (h:Rch n cs R) (hcl:∀ c ∈ cs,R.getD c.a.toNat false = R.getD c.b.toNat false):conB n cs = R.all id:=by
 unfold conB
 have e:Con n cs ↔ R.all id = true:=by
  constructor
  ·intro hC
   rw [List.all_eq_true]
   intro b hb
   obtain ⟨i,hi,rfl⟩:=List.getElem_of_mem hb
   have:=hC (fun i=>R.getD i false) ⟨h.z,hcl⟩ i (by rw [← h.len]; exact hi)
   simpa [List.getD_eq_getElem?_getD,hi] using this
  ·intro ha S hS i hi
   rw [List.all_eq_true] at ha
   have hi':i < R.length:=by rw [h.len]; exact hi
   exact h.min S hS i (by have:=ha _ (List.getElem_mem hi'); simpa [List.getD_eq_getElem?_getD,hi'] using this)
 cases hb:R.all id
 ·exact decide_eq_false (fun hC=>by rw [e.1 hC] at hb; exact absurd hb (by decide))
 ·exact decide_eq_true (e.2 hb)
open Classical in
theorem con_zero (cs:List Cr):conB 0 cs = true:=decide_eq_true fun S hS i hi=>by omega
theorem rch_start {n:Nat} (hn:0 < n) (cs:List Cr):Rch n cs ((List.replicate n false).set 0 true):=by
 refine ⟨by simp,by simp [List.getD_eq_getElem?_getD,hn],fun S hS i hi=>?_⟩
 rcases getD_set hi with rfl | hi
 ·exact hS.1
 ·exfalso
  by_cases h:i < n
  ·simp [List.getD_eq_getElem?_getD,h] at hi
  ·simp [List.getD_eq_getElem?_getD,h] at hi
end Go.Vai
namespace Go.Vai
open Pq
@[simp] theorem encB_len (b:Bool):(encB b).length = 1:=rfl
theorem c234 (R:List Bool) (h:(R.length:Int) ≤ 1048576):PC E 234 [.i (.sl (R.map encB)),.i (.bool false)] [.i (.int .i64 (fidx (fun b=>!b) R))]:=by
 refine zP hE Proofs.Tryz.func234 Proofs.Tryz.ntmps234 rfl rfl ?_
 simp (maxSteps:=999999) (disch:=first|exact {}|omega|simp) [zS]
 refine XL.by hE (ι:={ k:Nat // k ≤ R.length ∧ ∀ (j:Nat) (hj:j < R.length),j < k → (fun b=>!b) R[j] = false }) (fun k=>⟨[(0,.i (.sl (R.map encB))),(1,.i (.bool false)),(7,.i (.int .i64 R.length)),(8,.i (.int .i64 k.1))],[]⟩)
  (fun k=>R.length - k.1) ⟨0,Nat.zero_le _,by simp⟩ ⟨by simp,by simp,by simp⟩ (by kernel_rfl) ?_
 rintro ⟨k,hk,hno⟩
 by_cases hlt:k < R.length
 ·have hg:(R.map encB)[k]? = some [.bool R[k]]:=by simp [hlt,encB]
  simp (maxSteps:=999999) (disch:=first|exact {}|omega|simp) [zS,hlt,hg]
  cases hb:R[k]
  ·have:=fidx_at (p:=fun b=>!b) hlt hno (by simp [hb])
   simp (maxSteps:=999999) (disch:=first|exact {}|omega|simp) [zS,this]
  ·simp (maxSteps:=999999) (disch:=first|exact {}|omega|simp) [zS]
   (refine ⟨⟨k + 1,by omega,step_no hno hlt (by simp [hb])⟩,by (simp; try omega), ?_⟩; constructor <;> (simp (maxSteps:=999999) (disch:=first|exact {}|omega|simp) [zS]) <;> (try omega))
 ·obtain rfl:k = R.length:=by omega
  simp (maxSteps:=999999) (disch:=first|exact {}|omega|simp) [zS,fidx_none fun j hj=>hno j hj hj]
theorem c169 (R:List Bool) (h:(R.length:Int) ≤ 1048576):PC E 169 [.i (.sl (R.map encB)),.i (.bool false)] [.i (.bool (!R.all id))]:=by
 have e:decide (0 ≤ fidx (fun b=>!b) R) = !R.all id:=by
  rw [fidx_any,List.not_all_eq_any_not]; rfl
 refine zP hE Proofs.Tryz.func169 Proofs.Tryz.ntmps169 rfl rfl ?_
 simp (maxSteps:=999999) (disch:=first|exact {}|omega|simp) [zS]
 refine zC (c234 R h) ?_
 simp (maxSteps:=999999) (disch:=first|exact {}|omega|simp) [zS,e]
structure Pas (n:Nat) (cs:List Cr) (R R':List Bool) (ch:Bool) (k:Nat):Prop where
 r:Rch n cs R'
 le:nf R' ≤ nf R
 lt:ch = true → nf R' < nf R
 same:ch = false → R' = R ∧ ∀ i,i < k → R.getD (getK cs i).a.toNat false = R.getD (getK cs i).b.toNat false
theorem c92 (ps:List Pt) (cs:List Cr) (hcin:∀ c ∈ cs,Cin ps.length c) (h:(ps.length:Int) ≤ 1048576) (hc:(cs.length:Int) ≤ 1048576) :
  PC E 92 [.agg (encPa ps cs)] [.i (.bool (conB ps.length cs))]:=by
 refine zP hE Proofs.Tryz.func92 Proofs.Tryz.ntmps92 rfl rfl ?_
 simp (maxSteps:=999999) (disch:=first|exact {}|omega|simp) [zS,encPa]
 by_cases h0:ps.length = 0
 ·have hp0:ps = []:=List.length_eq_zero_iff.1 h0
  subst hp0
  have:=con_zero cs
  simp (maxSteps:=999999) (disch:=first|exact {}|omega|simp) [zS,this]
 have hn:0 < ps.length:=by omega
 have hp:ps ≠ []:=by rintro rfl; simp at h0
 simp (maxSteps:=999999) (disch:=first|exact {}|omega|simp) [zS,h0,hn,hp]
 refine XL.by hE (ι:={ p:List Bool × Bool // Rch ps.length cs p.1 ∧ (p.2 = false → ∀ c ∈ cs,p.1.getD c.a.toNat false = p.1.getD c.b.toNat false) }) (fun p=>⟨[(1,.ptr 1 0 0),(3,.own 14 0 ps.length),(4,.i (.bool p.1.2))],[(1,⟨2,[encPa ps cs]⟩),(14,⟨1,p.1.1.map encB⟩)]⟩)
  (fun p=>2 * nf p.1.1 + (if p.1.2 = true then 1 else 0)) ⟨((List.replicate ps.length false).set 0 true,true),rch_start hn cs,fun h=>by simp at h⟩ ⟨by simp,by simp [encPa,encB,List.map_set],by simp⟩ (by kernel_rfl) ?_
 rintro ⟨⟨R,ch⟩,hR,hcl⟩
 simp only at hR hcl
 have hRl:=hR.len
 cases ch
 ·have hd:=hR.done (hcl rfl)
  have tk:List.take ps.length (R.map encB) = R.map encB:=List.take_of_length_le (by simp [hRl])
  simp (maxSteps:=999999) (disch:=first|exact {}|omega|simp) [zS,hRl,tk]
  refine zC (c169 R (by omega)) ?_
  simp (maxSteps:=999999) (disch:=first|exact {}|omega|simp) [zS,hd]
 ·simp (maxSteps:=999999) (disch:=first|exact {}|omega|simp) [zS,encPa]
  refine XL.by hE (ι:={ p:Nat × List Bool × Bool // p.1 ≤ cs.length ∧ Pas ps.length cs R p.2.1 p.2.2 p.1 }) (fun p=>⟨[(1,.ptr 1 0 0),(3,.own 14 0 ps.length),(4,.i (.bool p.1.2.2)),(19,.i (.sl (cs.map encK))),(20,.i (.int .i64 cs.length)),(21,.i (.int .i64 p.1.1))],[(1,⟨2,[encPa ps cs]⟩),(14,⟨1,p.1.2.1.map encB⟩)]⟩)
   (fun p=>cs.length - p.1.1) ⟨(0,R,false),Nat.zero_le _,⟨hR,Nat.le_refl _,fun h=>by simp at h,fun _=>⟨rfl,fun i hi=>by simp at hi⟩⟩⟩ ⟨by simp,by simp [encPa],by simp⟩ (by kernel_rfl) ?_
  rintro ⟨⟨k,R',ch⟩,hk,hP⟩
  simp only at hk hP
  have hRl':=hP.r.len
  by_cases hlt:k < cs.length
  ·obtain ⟨hg,he⟩:=getK_get hlt
   have hci:=hcin _ (List.getElem_mem hlt)
   have hmem:getK cs k ∈ cs:=by rw [he]; exact List.getElem_mem hlt
   rw [← he] at hci
   have hbt:=hP.r.both hmem
   have hsame:=hP.same
   clear he
   generalize hcc:getK cs k = c at *
   obtain ⟨a0,ab,bn⟩:=hci
   have na:¬ c.a < 0:=by omega
   have nb:¬ c.b < 0:=by omega
   have la:c.a.toNat < R'.length:=by omega
   have lb:c.b.toNat < R'.length:=by omega
   have la2:c.a.toNat < ps.length:=by omega
   have lb2:c.b.toNat < ps.length:=by omega
   have ga:(R'.map encB)[c.a.toNat]? = some [.bool (R'.getD c.a.toNat false)]:=by simp [la,encB]
   have gb:(R'.map encB)[c.b.toNat]? = some [.bool (R'.getD c.b.toNat false)]:=by simp [lb,encB]
   have ga2:=(List.getElem?_eq_some_iff.1 ga).2
   have gb2:=(List.getElem?_eq_some_iff.1 gb).2
   have xa:R'.getD c.a.toNat false = R'[c.a.toNat]:=by simp [la]
   have xb:R'.getD c.b.toNat false = R'[c.b.toNat]:=by simp [lb]
   have hnab:c.a.toNat ≠ c.b.toNat:=by omega
   simp (maxSteps:=999999) (disch:=first|exact {}|omega|simp) [zS,hlt,hg,encK,na,nb,la,lb,la2,lb2,hRl',ga,gb,ga2,gb2,encPa]
   by_cases g1:R'[c.a.toNat] = R'[c.b.toNat]
   ·simp (maxSteps:=999999) (disch:=first|exact {}|omega|simp) [zS,g1]
    (refine ⟨⟨(k + 1,R',ch),by simp; omega,⟨hP.r,hP.le,hP.lt,fun hch=>⟨(hsame hch).1,fun i hi=>by
     by_cases e:i = k
     ·subst e
      rw [hcc,← (hsame hch).1,xa,xb,g1]
     ·exact (hsame hch).2 i (by omega)⟩⟩⟩,by (simp; try omega), ?_⟩; constructor <;> (simp (maxSteps:=999999) (disch:=first|exact {}|omega|simp) [zS,encPa]) <;> (try omega))
   ·have hone:R'.getD c.a.toNat false = true ∨ R'.getD c.b.toNat false = true:=by
     rw [xa,xb]
     revert g1
     cases R'[c.a.toNat] <;> cases R'[c.b.toNat] <;> simp
    have hlow:nf ((R'.set c.a.toNat true).set c.b.toNat true) < nf R':=by
     have l1:=nf_le (R'.set c.a.toNat true) c.b.toNat
     have l2:=nf_le R' c.a.toNat
     by_cases z:R'[c.a.toNat] = false
     ·have:=nf_lt R' c.a.toNat (by simp [la,z])
      omega
     ·have zb:R'[c.b.toNat] = false:=by
       revert g1 z
       cases R'[c.a.toNat] <;> cases R'[c.b.toNat] <;> simp
      have:=nf_lt (R'.set c.a.toNat true) c.b.toNat (by rw [List.getD_eq_getElem?_getD,List.getElem?_set_ne hnab]; simp [lb,zb])
      omega
    have hle:=hP.le
    have hB:=hbt hone
    have hbn:(R'[c.a.toNat] != R'[c.b.toNat]) = true:=by simp [g1]
    generalize (R'[c.a.toNat] != R'[c.b.toNat]) = q at *
    subst hbn
    simp (maxSteps:=999999) (disch:=first|exact {}|omega|simp) [zS]
    refine Xc_late E _ _ _ 7 [3,4,5] [14] (by kernel_rfl) (by kernel_rfl) ?_
    have hP2:Pas ps.length cs R ((R'.set c.a.toNat true).set c.b.toNat true) true (k + 1):=⟨hB,by omega,fun _=>by omega,fun h=>by simp at h⟩
    simp (maxSteps:=999999) (disch:=first|exact {}|omega|simp) [zS,na,nb,la,lb,la2,lb2,hRl',ga2,gb2,encB]
    (refine ⟨⟨(k + 1,(R'.set c.a.toNat true).set c.b.toNat true,true),by simp; omega,hP2⟩,by (simp; try omega), ?_⟩; constructor <;> (simp (maxSteps:=999999) (disch:=first|exact {}|omega|simp) [zS,encPa,encB,List.map_set,na,nb,la,lb,la2,lb2,hRl']) <;> (try omega))
  ·obtain rfl:k = cs.length:=by omega
   have h1:=hP.lt
   have h2:=hP.same
   have hr:=hP.r
   have hcl':ch = false → ∀ c ∈ cs,R'.getD c.a.toNat false = R'.getD c.b.toNat false:=fun hch c hc=>by
    obtain ⟨i,hi,rfl⟩:=List.getElem_of_mem hc
    have:=(h2 hch).2 i hi
    rw [(getK_get hi).2] at this
    rw [(h2 hch).1]; exact this
   have hms:2 * nf R' + (if ch = true then 1 else 0) < 2 * nf R + 1:=by
    cases ch
    ·rw [(h2 rfl).1]; simp
    ·have:=h1 rfl; simp; omega
   simp (maxSteps:=999999) (disch:=first|exact {}|omega|simp) [zS]
   (refine ⟨⟨(R',ch),hr,hcl'⟩,by (simp; try omega), ?_⟩; constructor <;> (simp (maxSteps:=999999) (disch:=first|exact {}|omega|simp) [zS,encPa]) <;> (try omega))
end Go.Vai
set_option maxHeartbeats 4000000
namespace Go.Vai
structure See (n:Nat) (cs:List Cr) (L:List Nat):Prop where
 nd:L.Nodup
 bd:∀ v ∈ L,v < n
 z:0 ∈ L
 min:∀ S,Clo cs S → ∀ v ∈ L,S v = true
theorem sum_two (n:Nat):Wk.sumTo (fun _=>2) n = 2 * n:=by
 induction n with
 | zero=>rfl
 | succ n ih=>simp only [Wk.sumTo]; rw [ih]; omega
theorem See.len {n:Nat} {cs:List Cr} {L:List Nat} (h:See n cs L):L.length = n ↔ ∀ v,v < n → v ∈ L:=by
 have hs:=Wk.sumTo_mem (n:=n) h.nd h.bd
 constructor
 ·intro e v hv
  refine Classical.byContradiction fun hno=>?_
  have:=Wk.sumTo_lt (f:=fun v=>if v ∈ L then 2 else 0) (g:=fun _=>2) (fun v=>by split <;> omega) (u:=v) (by rw [if_neg hno]; omega) n hv
  rw [hs,sum_two] at this
  omega
 ·intro ha
  have:=Wk.sumTo_congr (f:=fun v=>if v ∈ L then 2 else 0) (g:=fun _=>2) n fun v hv=>by rw [if_pos (ha v hv)]
  rw [hs,sum_two] at this
  omega
open Classical in
theorem See.done {n:Nat} {cs:List Cr} {L:List Nat} (h:See n cs L) (hcl:∀ c ∈ cs,c.a.toNat ∈ L ↔ c.b.toNat ∈ L):conB n cs = decide (L.length = n):=by
 unfold conB
 have e:Con n cs ↔ L.length = n:=by
  rw [h.len]
  constructor
  ·intro hC v hv
   have:=hC (fun v=>decide (v ∈ L)) ⟨decide_eq_true h.z,fun c hc=>by simp only [decide_eq_decide]; exact hcl c hc⟩ v hv
   simpa using this
  ·intro ha S hS v hv
   exact h.min S hS v (ha v hv)
 by_cases he:L.length = n
 ·rw [decide_eq_true he]; exact decide_eq_true (e.2 he)
 ·rw [decide_eq_false he]; exact decide_eq_false fun hC=>he (e.1 hC)
theorem See.add {n:Nat} {cs:List Cr} {L:List Nat} (h:See n cs L) {u v:Nat} (hu:u ∈ L) (hv:v < n) (hno:v ∉ L) {c:Cr} (hc:c ∈ cs) (he:(c.a.toNat = u ∧ c.b.toNat = v) ∨ (c.a.toNat = v ∧ c.b.toNat = u)):See n cs (L ++ [v]):=by
 refine ⟨?_,fun x hx=>?_,List.mem_append.2 (.inl h.z),fun S hS x hx=>?_⟩
 ·rw [List.nodup_append]
  exact ⟨h.nd,by simp,fun a ha b hb=>by
   obtain rfl:=List.mem_singleton.1 hb
   rintro rfl
   exact hno ha⟩
 ·rcases List.mem_append.1 hx with hx | hx
  ·exact h.bd x hx
  ·obtain rfl:=List.mem_singleton.1 hx; exact hv
 ·rcases List.mem_append.1 hx with hx | hx
  ·exact h.min S hS x hx
  ·obtain rfl:=List.mem_singleton.1 hx
   have hu':=h.min S hS u hu
   have hab:=hS.2 c hc
   rcases he with ⟨e1,e2⟩ | ⟨e1,e2⟩
   ·rw [e1,e2] at hab; rw [← hab]; exact hu'
   ·rw [e1,e2] at hab; rw [hab]; exact hu'
theorem See.start {n:Nat} (hn:0 < n) (cs:List Cr):See n cs [0] :=
 ⟨by simp,fun v hv=>by obtain rfl:=List.mem_singleton.1 hv; exact hn,by simp,fun S hS v hv=>by obtain rfl:=List.mem_singleton.1 hv; exact hS.1⟩
end Go.Vai
set_option maxHeartbeats 8000000
namespace Go.Vai
theorem c192 (ps:List Pt) (cs:List Cr) (l:List Int) (hl:∀ i ∈ l,0 ≤ i ∧ i < ps.length) (h:(l.length:Int) ≤ 1048576):PC E 192 [.agg (encPa ps cs),.i (.sl (l.map encI))] [.own 6 (encPs (l.map (pI ps)))]:=by
 refine zP hE Proofs.Tryz.func192 Proofs.Tryz.ntmps192 rfl rfl ?_
 simp (maxSteps:=999999) (disch:=first|exact {}|omega|simp) [zS,encPa]
 refine XL.by hE (ι:={ k:Nat // k ≤ l.length }) (fun k=>⟨[(2,.ptr 2 0 0),(5,.own 21 0 k.1),(8,.i (.sl (l.map encI))),(9,.i (.int .i64 l.length)),(10,.i (.int .i64 k.1))],[(2,⟨2,[encPa ps cs]⟩),(21,⟨6,encPs ((l.map (pI ps)).take k.1)⟩)]⟩)
  (fun k=>l.length - k.1) ⟨0,Nat.zero_le _⟩ ⟨by simp,by simp [encPa,encPs],by simp⟩ (by kernel_rfl) ?_
 rintro ⟨k,hk⟩
 by_cases hlt:k < l.length
 ·obtain ⟨b0,b1⟩:=hl _ (List.getElem_mem hlt)
  have hg:(l.map encI)[k]? = some [.int .i64 l[k]]:=by simp [hlt,encI]
  have ga:=encPs_get (l:=ps) (k:=(l[k]).toNat) (by omega)
  have hn:¬ l[k] < 0:=by omega
  have hll:(l[k]).toNat < ps.length:=by omega
  have hM:(l.map (pI ps)).take (k + 1) = (l.map (pI ps)).take k ++ [pI ps l[k]]:=by
   rw [List.take_add_one]; simp [hlt]
  have hst:encPs ((l.map (pI ps)).take (k + 1)) = encPs ((l.map (pI ps)).take k) ++ [encP (pI ps l[k])]:=by
   rw [hM]; simp [encPs]
  change (encPs ps)[(l[k]).toNat]? = some (encP (pI ps l[k])) at ga
  have hX:(encPs ((l.map (pI ps)).take k)).length = k:=by simp [encPs]; omega
  have tX:List.take k (encPs ((l.map (pI ps)).take k)) = encPs ((l.map (pI ps)).take k):=List.take_of_length_le (by omega)
  simp (maxSteps:=999999) (disch:=first|exact {}|omega|simp) [zS,hlt,hg,ga,hn,hll,encPa]
  (refine ⟨⟨k + 1,by omega⟩,by (simp; try omega), ?_⟩; constructor <;> (simp (maxSteps:=999999) (disch:=first|exact {}|omega|simp) [zS,encPa,hst,hX,tX]) <;> (try omega))
 ·obtain rfl:k = l.length:=by omega
  have hT:List.take l.length (encPs (l.map (pI ps))) = encPs (l.map (pI ps)):=List.take_of_length_le (by simp [encPs])
  simp (maxSteps:=999999) (disch:=first|exact {}|omega|simp) [zS,hT]
def bendB (l:List Pt) (i:Nat):Bool:=decide (dirR (pminus (nth l i) (nth l ((i + l.length - 1) % l.length))) ≠ dirR (pminus (nth l ((i + 1) % l.length)) (nth l i)))
def bendN (l:List Pt):Nat → List Pt
 | 0=>[]
 | k + 1=>bendN l k ++ if bendB l k = true then [nth l k] else []
theorem bendN_len (l:List Pt):∀ k,(bendN l k).length ≤ k
 | 0=>by simp [bendN]
 | k + 1=>by
  have:=bendN_len l k
  simp only [bendN,List.length_append]
  split <;> simp <;> omega
theorem c191 (l:List Pt) (hv:∀ p ∈ l,PV p) (h:(l.length:Int) ≤ 1048576):PC E 191 [.i (.sl (encPs l))] [.own 6 (encPs (bendN l l.length))]:=by
 refine zP hE Proofs.Tryz.func191 Proofs.Tryz.ntmps191 rfl rfl ?_
 simp (maxSteps:=999999) (disch:=first|exact {}|omega|simp) [zS]
 refine XL.by hE (ι:={ k:Nat // k ≤ l.length }) (fun k=>⟨[(0,.i (.sl (encPs l))),(3,.i (.int .i64 l.length)),(4,.own 40 0 (bendN l k.1).length),(9,.i (.sl (encPs l))),(10,.i (.int .i64 l.length)),(11,.i (.int .i64 k.1))],[(40,⟨6,encPs (bendN l k.1)⟩)]⟩)
  (fun k=>l.length - k.1) ⟨0,Nat.zero_le _⟩ ⟨by simp [bendN],by simp [bendN,encPs],by simp⟩ (by kernel_rfl) ?_
 rintro ⟨k,hk⟩
 have hbl:=bendN_len l k
 by_cases hlt:k < l.length
 ·have m1:(k + l.length - 1) % l.length < l.length:=Nat.mod_lt _ (by omega)
  have m2:(k + 1) % l.length < l.length:=Nat.mod_lt _ (by omega)
  have e1:((k:Int) + l.length - 1).tmod l.length = (((k + l.length - 1) % l.length:Nat):Int):=by
   rw [show (k:Int) + l.length - 1 = ((k + l.length - 1:Nat):Int) by omega]; rfl
  have e2:((k:Int) + 1).tmod l.length = (((k + 1) % l.length:Nat):Int):=by
   rw [show (k:Int) + 1 = ((k + 1:Nat):Int) by omega]; rfl
  have hne:l ≠ []:=by rintro rfl; simp at hlt
  have tX:List.take (bendN l k).length (encPs (bendN l k)) = encPs (bendN l k):=List.take_of_length_le (by simp [encPs])
  have g0:=encPs_get hlt
  have g1:=encPs_get m1
  have g2:=encPs_get m2
  have hnl:¬ (l.length:Int) = 0:=by omega
  have d1:=c141 (nth l ((k + l.length - 1) % l.length)) (nth l k) (hv _ (nth_mem hlt)) (hv _ (nth_mem m1)) (by decide) (by decide)
  have d2:=c141 (nth l k) (nth l ((k + 1) % l.length)) (hv _ (nth_mem m2)) (hv _ (nth_mem hlt)) (by decide) (by decide)
  have hb:bendB l k = decide (dirR (pminus (nth l k) (nth l ((k + l.length - 1) % l.length))) ≠ dirR (pminus (nth l ((k + 1) % l.length)) (nth l k))):=rfl
  have hst:bendN l (k + 1) = bendN l k ++ if bendB l k = true then [nth l k] else []:=rfl
  generalize (k + l.length - 1) % l.length = i1 at *
  generalize (k + 1) % l.length = i2 at *
  simp (maxSteps:=999999) (disch:=first|exact {}|omega|simp) [zS,hlt,g0,hnl,hne,e1,e2,g1,g2,m1,m2]
  refine zC (d1) ?_
  simp (maxSteps:=999999) (disch:=first|exact {}|omega|simp) [zS,hlt,g0,hnl,hne,e1,e2,g1,g2,m1,m2]
  refine zC (d2) ?_
  simp (maxSteps:=999999) (disch:=first|exact {}|omega|simp) [zS]
  (first | refine Gd.dec (fun u1=>?_) (fun u1=>?_) | refine Gd.intro (fun u1=>?_) (fun u1=>?_)) <;> simp (maxSteps:=999999) (disch:=first|exact {}|omega|simp) [zS,u1]
  ·have hs:bendN l (k + 1) = bendN l k:=by rw [hst,hb,decide_eq_false (by simpa using u1)]; simp
   (refine ⟨⟨k + 1,by omega⟩,by (simp; try omega), ?_⟩; constructor <;> (simp (maxSteps:=999999) (disch:=first|exact {}|omega|simp) [zS,hs]) <;> (try omega))
  ·have hs:bendN l (k + 1) = bendN l k ++ [nth l k]:=by rw [hst,hb,decide_eq_true u1]; simp
   have hs2:encPs (bendN l (k + 1)) = encPs (bendN l k) ++ [encP (nth l k)]:=by rw [hs]; simp [encPs]
   have hs3:(bendN l (k + 1)).length = (bendN l k).length + 1:=by rw [hs]; simp
   (refine ⟨⟨k + 1,by omega⟩,by (simp; try omega), ?_⟩; constructor <;> (simp (maxSteps:=999999) (disch:=first|exact {}|omega|simp) [zS,hs2,hs3,tX]) <;> (try omega))
 ·obtain rfl:k = l.length:=by omega
  have tX:List.take (bendN l l.length).length (encPs (bendN l l.length)) = encPs (bendN l l.length):=List.take_of_length_le (by simp [encPs])
  simp (maxSteps:=999999) (disch:=first|exact {}|omega|simp) [zS,tX]
end Go.Vai
set_option maxHeartbeats 4000000
namespace Go.Vai
theorem in_or {a b p:Pt} (ha:PK a) (hb:PK b) (hp:PK p) (hd:0 ≤ dirR (pminus b a)):nsign (ndot (vec ((dirR (pminus b a) + 4) % 16)) (pminus p a)) = ornt a b p:=by
 have A:=dseg ha hb hd
 have hw:PK (pminus p a):=pk_minus hp
 have hs:=sgnP_nsign (ndot (vec ((dirR (pminus b a) + 4) % 16)) (pminus p a))
 have hx:val (vec ((dirR (pminus b a) + 4) % 16)).x = -val (vec (dirR (pminus b a))).y ∧ val (vec ((dirR (pminus b a) + 4) % 16)).y = val (vec (dirR (pminus b a))).x:=by
  rw [vec_turn hd (dirR_range _).2]
  exact ⟨val_nneg _,rfl⟩
 rw [val_ndot (vec_k _) hw,show val (pminus p a).x = val p.x - val a.x from val_nsub hp.1 ha.1,show val (pminus p a).y = val p.y - val a.y from val_nsub hp.2 ha.2,hx.1,hx.2] at hs
 rw [or_sd ha hb hp hd]
 exact hs.eq (A.side p hp) (by grind)
end Go.Vai
namespace Go.Vai
def oneL (v:Nat) (c:Cr):List Nat:=if c.k = 1 then (if c.a.toNat = v then [c.b.toNat] else if c.b.toNat = v then [c.a.toNat] else []) else []
def nbL (cs:List Cr) (v:Nat):List Nat:=cs.flatMap (oneL v)
def bcnt (cs:List Cr):Nat:=(cs.filter fun c=>decide (c.k = 1)).length
theorem nbL_snoc (cs:List Cr) (c:Cr) (v:Nat):nbL (cs ++ [c]) v = nbL cs v ++ oneL v c:=by simp [nbL,List.flatMap_append]
theorem nbL_cons (c:Cr) (cs:List Cr) (v:Nat):nbL (c :: cs) v = oneL v c ++ nbL cs v:=by simp [nbL]
theorem one_mem {n v u:Nat} {c:Cr} (hc:Cin n c):u ∈ oneL v c ↔ c.k = 1 ∧ ((c.a.toNat = v ∧ c.b.toNat = u) ∨ (c.b.toNat = v ∧ c.a.toNat = u)):=by
 obtain ⟨a0,ab,bn⟩:=hc
 unfold oneL
 by_cases hk:c.k = 1
 ·rw [if_pos hk]
  by_cases h1:c.a.toNat = v
  ·rw [if_pos h1]; simp only [List.mem_singleton]
   constructor
   ·intro e; exact ⟨hk,.inl ⟨h1,e.symm⟩⟩
   ·rintro ⟨-,⟨-,e⟩ | ⟨e1,e2⟩⟩
    ·exact e.symm
    ·omega
  ·rw [if_neg h1]
   by_cases h2:c.b.toNat = v
   ·rw [if_pos h2]; simp only [List.mem_singleton]
    constructor
    ·intro e; exact ⟨hk,.inr ⟨h2,e.symm⟩⟩
    ·rintro ⟨-,⟨e,-⟩ | ⟨-,e⟩⟩
     ·exact absurd e h1
     ·exact e.symm
   ·rw [if_neg h2]
    simp [h1,h2]
 ·rw [if_neg hk]; simp [hk]
theorem nbL_mem {n v u:Nat} {cs:List Cr} (hc:∀ c ∈ cs,Cin n c):u ∈ nbL cs v ↔ ∃ c ∈ cs,c.k = 1 ∧ ((c.a.toNat = v ∧ c.b.toNat = u) ∨ (c.b.toNat = v ∧ c.a.toNat = u)):=by
 unfold nbL
 rw [List.mem_flatMap]
 constructor
 ·rintro ⟨c,h1,h2⟩; exact ⟨c,h1,(one_mem (hc c h1)).1 h2⟩
 ·rintro ⟨c,h1,h2⟩; exact ⟨c,h1,(one_mem (hc c h1)).2 h2⟩
def apart2 (c d:Cr):Prop:=¬ (c.a = d.a ∧ c.b = d.b)
theorem nbL_nodup {n:Nat}:∀ {cs:List Cr},(∀ c ∈ cs,Cin n c) → cs.Pairwise apart2 → ∀ v,(nbL cs v).Nodup
 | [],_,_,v=>by simp [nbL]
 | c :: cs,hc,hp,v=>by
  obtain ⟨h1,h2⟩:=List.pairwise_cons.1 hp
  have ih:=nbL_nodup (fun d hd=>hc d (by simp [hd])) h2 v
  rw [nbL_cons,List.nodup_append]
  refine ⟨?_,ih,fun x hx y hy=>?_⟩
  ·unfold oneL; split <;> (try split) <;> (try split) <;> simp
  ·rintro rfl
   have i1:=hc c (by simp)
   obtain ⟨-,e1⟩:=(one_mem i1).1 hx
   obtain ⟨d,hd,-,e2⟩:=(nbL_mem fun d hd=>hc d (by simp [hd])).1 hy
   have i2:=hc d (by simp [hd])
   obtain ⟨a0,ab,bn⟩:=i1
   obtain ⟨a0',ab',bn'⟩:=i2
   exact h1 d hd (by constructor <;> omega)
theorem lex_trans {p q r:Cr} (h1:lexB p q = true) (h2:lexB q r = true):lexB p r = true:=by
 simp only [lexB,Bool.or_eq_true,Bool.and_eq_true,decide_eq_true_eq] at *; omega
theorem nms_lex {ps:List Pt} {cs:List Cr} (h:nmsOk ps cs = true):∀ j i,i < j → j < cs.length → lexB (getK cs i) (getK cs j) = true
 | 0,i,hij,_=>by omega
 | j + 1,i,hij,hj=>by
  have hs:lexB (getK cs j) (getK cs (j + 1)) = true:=by
   unfold nmsOk at h
   rw [List.all_eq_true] at h
   have:=h (j + 1) (List.mem_range.2 hj)
   simpa [crNum] using (by simpa [crNum] using this:_ ∧ lexB (getK cs j) (getK cs (j + 1)) = true).2
  by_cases e:i = j
  ·subst e; exact hs
  ·exact lex_trans (nms_lex h j i (by omega) (by omega)) hs
theorem nms_pair {ps:List Pt} {cs:List Cr} (h:nmsOk ps cs = true):cs.Pairwise apart2:=by
 rw [List.pairwise_iff_getElem]
 intro i j hi hj hij e
 have:=nms_lex h j i hij hj
 rw [(getK_get hi).2,(getK_get hj).2] at this
 simp only [lexB,Bool.or_eq_true,Bool.and_eq_true,decide_eq_true_eq] at this; omega
theorem one_len {n:Nat} {c:Cr} (hc:Cin n c) (v:Nat):(oneL v c).length = (if v = c.a.toNat then (if c.k = 1 then 1 else 0) else 0) + (if v = c.b.toNat then (if c.k = 1 then 1 else 0) else 0):=by
 obtain ⟨a0,ab,bn⟩:=hc
 unfold oneL
 by_cases hk:c.k = 1
 ·rw [if_pos hk,if_pos hk]
  by_cases h1:v = c.a.toNat
  ·have h2:v ≠ c.b.toNat:=by omega
   rw [if_pos h1.symm,if_pos h1,if_neg h2]; rfl
  ·rw [if_neg (fun e=>h1 e.symm),if_neg h1]
   by_cases h2:v = c.b.toNat
   ·rw [if_pos h2.symm,if_pos h2]; rfl
   ·rw [if_neg (fun e=>h2 e.symm),if_neg h2]; rfl
 ·simp [hk]
theorem nb_sum {n:Nat}:∀ {cs:List Cr},(∀ c ∈ cs,Cin n c) → Wk.sumTo (fun v=>(nbL cs v).length) n = 2 * bcnt cs
 | [],_=>by simp [nbL,Wk.sumTo_zero,bcnt]
 | c :: cs,hc=>by
  have ih:=nb_sum (cs:=cs) (n:=n) fun d hd=>hc d (by simp [hd])
  have i1:=hc c (by simp)
  have e:(fun v=>(nbL (c :: cs) v).length) = fun v=>((if v = c.a.toNat then (if c.k = 1 then 1 else 0) else 0) + (if v = c.b.toNat then (if c.k = 1 then 1 else 0) else 0)) + (nbL cs v).length:=by
   funext v
   rw [nbL_cons,List.length_append,one_len i1]
  obtain ⟨a0,ab,bn⟩:=i1
  rw [e,Wk.sumTo_add (fun v=>(if v = c.a.toNat then (if c.k = 1 then 1 else 0) else 0) + (if v = c.b.toNat then (if c.k = 1 then 1 else 0) else 0)) (fun v=>(nbL cs v).length),Wk.sumTo_add (fun v=>if v = c.a.toNat then (if c.k = 1 then 1 else 0) else 0) (fun v=>if v = c.b.toNat then (if c.k = 1 then 1 else 0) else 0),Wk.sumTo_ind,Wk.sumTo_ind,if_pos (show c.a.toNat < n by omega),if_pos (show c.b.toNat < n by omega),ih]
  unfold bcnt
  rw [List.filter_cons]
  by_cases hk:c.k = 1
  ·simp [hk]; omega
  ·simp [hk]
theorem nb_gr {ps:List Pt} {cs:List Cr} (h:nmsOk ps cs = true):Wk.Gr ps.length (bcnt cs) (nbL cs):=by
 have hc:=nmsOk_cin h
 refine ⟨nbL_nodup hc (nms_pair h),fun v hv=>?_,fun u v hu=>?_,fun u v hu=>?_,nb_sum hc⟩
 ·obtain ⟨c,h1,-,h2⟩:=(nbL_mem hc).1 hv
  obtain ⟨a0,ab,bn⟩:=hc c h1
  omega
 ·obtain ⟨c,h1,hk,h2⟩:=(nbL_mem hc).1 hu
  exact (nbL_mem hc).2 ⟨c,h1,hk,by omega⟩
 ·obtain ⟨c,h1,-,h2⟩:=(nbL_mem hc).1 hu
  obtain ⟨a0,ab,bn⟩:=hc c h1
  omega
structure Bck (cs:List Cr) (m:Nat):Prop where
 m0:0 < m
 d:Wk.D (nbL cs) m
 z:Wk.w (nbL cs) m = 0
theorem Bck.uniq {cs:List Cr} {m m':Nat} (h:Bck cs m) (h':Bck cs m'):m = m':=by
 rcases Nat.lt_trichotomy m m' with hlt | he | hlt
 ·exact absurd h.z ((h'.d m hlt).2 h.m0)
 ·exact he
 ·exact absurd h'.z ((h.d m' hlt).2 h'.m0)
open Classical in
noncomputable def brdM (cs:List Cr):Nat:=if h:∃ m,Bck cs m then Classical.choose h else 0
theorem brdM_of {cs:List Cr} {m:Nat} (h:Bck cs m):brdM cs = m:=by
 have hx:∃ m,Bck cs m:=⟨m,h⟩
 unfold brdM
 rw [dif_pos hx]
 exact (Classical.choose_spec hx).uniq h
theorem brdM_no {cs:List Cr} (h:¬ ∃ m,Bck cs m):brdM cs = 0:=by
 unfold brdM
 rw [dif_neg h]
def rngI (cs:List Cr) (m:Nat):List Int:=(List.range m).map fun k=>(Wk.w (nbL cs) k:Int)
theorem rngI_len (cs:List Cr) (m:Nat):(rngI cs m).length = m:=by simp [rngI]
theorem rngI_snoc (cs:List Cr) (m:Nat):rngI cs (m + 1) = rngI cs m ++ [(Wk.w (nbL cs) m:Int)]:=by simp [rngI,List.range_succ]
theorem rngI_get (cs:List Cr) {m k:Nat} (h:k < m):(rngI cs m)[k]? = some (Wk.w (nbL cs) k:Int):=by simp [rngI,h]
noncomputable def rndI (cs:List Cr):List Int:=rngI cs (brdM cs)
noncomputable def okR (cs:List Cr):Bool:=decide (0 < brdM cs) && decide (brdM cs = bcnt cs)
def degB (n:Nat) (cs:List Cr):Bool:=(List.range n).all (fun v=>decide ((nbL cs v).length = 0) || decide ((nbL cs v).length = 2)) && (decide (0 < n) && decide ((nbL cs 0).length = 2))
theorem degB_iff {n:Nat} {cs:List Cr}:degB n cs = true ↔ (∀ v,v < n → (nbL cs v).length = 0 ∨ (nbL cs v).length = 2) ∧ 0 < n ∧ (nbL cs 0).length = 2:=by
 unfold degB
 simp only [Bool.and_eq_true,List.all_eq_true,Bool.or_eq_true,decide_eq_true_eq,List.mem_range]
theorem okR_deg {ps:List Pt} {cs:List Cr} (h:nmsOk ps cs = true) (hn:0 < ps.length) (ho:okR cs = true):degB ps.length cs = true:=by
 unfold okR at ho
 rw [Bool.and_eq_true,decide_eq_true_eq,decide_eq_true_eq] at ho
 have hx:∃ m,Bck cs m:=Classical.byContradiction fun hno=>by rw [brdM_no hno] at ho; omega
 obtain ⟨m,hm⟩:=hx
 rw [brdM_of hm] at ho
 have:=Wk.ring_le (nb_gr h) hn hm.d
 exact degB_iff.2 ⟨this.2 ho.2,hn,(hm.d 0 hm.m0).1⟩
theorem deg_bck {ps:List Pt} {cs:List Cr} (h:nmsOk ps cs = true) (hd:degB ps.length cs = true):Bck cs (brdM cs):=by
 obtain ⟨h1,h2,h3⟩:=degB_iff.1 hd
 obtain ⟨m,m3,-,hD,hz⟩:=Wk.back (nb_gr h) h2 h3 h1
 have:Bck cs m:=⟨by omega,hD,hz⟩
 rw [brdM_of this]; exact this
theorem bck_three {ps:List Pt} {cs:List Cr} (h:nmsOk ps cs = true) {m:Nat} (hb:Bck cs m):3 ≤ m:=Wk.three (nb_gr h) hb.m0 hb.d hb.z
theorem bck_le {ps:List Pt} {cs:List Cr} (h:nmsOk ps cs = true) (hn:0 < ps.length) {m:Nat} (hd:Wk.D (nbL cs) m):m ≤ bcnt cs:=(Wk.ring_le (nb_gr h) hn hd).1
def isB (cs:List Cr) (v:Int) (i:Nat):Bool:=decide ((getK cs i).k = 1) && (decide ((getK cs i).a = v) || decide ((getK cs i).b = v))
theorem isB_iff {cs:List Cr} {v:Int} {i:Nat}:isB cs v i = true ↔ (getK cs i).k = 1 ∧ ((getK cs i).a = v ∨ (getK cs i).b = v):=by
 unfold isB; simp only [Bool.and_eq_true,Bool.or_eq_true,decide_eq_true_eq]
theorem getK_mem {cs:List Cr} {i:Nat} (hi:i < cs.length):getK cs i ∈ cs:=by rw [(getK_get hi).2]; exact List.getElem_mem hi
theorem isB_nb {n:Nat} {cs:List Cr} (hc:∀ c ∈ cs,Cin n c) {v i:Nat} (hi:i < cs.length) (h:isB cs v i = true):∃ u:Nat,(getK cs i).a + (getK cs i).b - v = u ∧ u ∈ nbL cs v ∧ isB cs u i = true:=by
 obtain ⟨hk,h1⟩:=isB_iff.1 h
 obtain ⟨a0,ab,bn⟩:=hc _ (getK_mem hi)
 refine ⟨((getK cs i).a + (getK cs i).b - v).toNat,by omega,(nbL_mem hc).2 ⟨_,getK_mem hi,hk,by omega⟩,isB_iff.2 ⟨hk,by omega⟩⟩
theorem nb_isB {n:Nat} {cs:List Cr} (hc:∀ c ∈ cs,Cin n c) {v u:Nat} (h:u ∈ nbL cs v):∃ i,i < cs.length ∧ isB cs v i = true ∧ (getK cs i).a + (getK cs i).b - v = u:=by
 obtain ⟨c,h1,hk,h2⟩:=(nbL_mem hc).1 h
 obtain ⟨i,hi,rfl⟩:=List.getElem_of_mem h1
 obtain ⟨a0,ab,bn⟩:=hc _ h1
 rw [← (getK_get hi).2] at *
 exact ⟨i,hi,isB_iff.2 ⟨hk,by omega⟩,by omega⟩
theorem isB_inj {ps:List Pt} {cs:List Cr} (h:nmsOk ps cs = true) {v i j:Nat} (hi:i < cs.length) (hj:j < cs.length) (h1:isB cs v i = true) (h2:isB cs v j = true) (he:(getK cs i).a + (getK cs i).b = (getK cs j).a + (getK cs j).b):i = j:=by
 have hc:=nmsOk_cin h
 obtain ⟨-,g1⟩:=isB_iff.1 h1
 obtain ⟨-,g2⟩:=isB_iff.1 h2
 obtain ⟨a0,ab,bn⟩:=hc _ (getK_mem hi)
 obtain ⟨a0',ab',bn'⟩:=hc _ (getK_mem hj)
 rcases Nat.lt_trichotomy i j with hlt | e | hlt
 ·have:=nms_lex h j i hlt hj
  simp only [lexB,Bool.or_eq_true,Bool.and_eq_true,decide_eq_true_eq] at this; omega
 ·exact e
 ·have:=nms_lex h i j hlt hi
  simp only [lexB,Bool.or_eq_true,Bool.and_eq_true,decide_eq_true_eq] at this; omega
theorem nb_head {n:Nat} {cs:List Cr} (hc:∀ c ∈ cs,Cin n c) {v i u:Nat} (hi:i < cs.length) (h:isB cs v i = true) (hu:(getK cs i).a + (getK cs i).b - v = u) (hno:∀ j,j < i → ¬ isB cs v j = true):(nbL cs v).getD 0 0 = u:=by
 have e:cs = cs.take i ++ getK cs i :: cs.drop (i + 1):=by
  rw [(getK_get hi).2,← List.drop_eq_getElem_cons hi,List.take_append_drop]
 have h0:nbL (cs.take i) v = []:=by
  unfold nbL
  rw [List.flatMap_eq_nil_iff]
  intro c hcm
  obtain ⟨j,hj,rfl⟩:=List.getElem_of_mem hcm
  rw [List.length_take] at hj
  have hjl:j < cs.length:=by omega
  have hn:=hno j (by omega)
  rw [isB_iff,(getK_get hjl).2] at hn
  obtain ⟨a0,ab,bn⟩:=hc _ (List.getElem_mem hjl)
  rw [List.getElem_take]
  unfold oneL
  by_cases hk:(cs[j]).k = 1
  ·rw [if_pos hk,if_neg (fun e=>hn ⟨hk,by omega⟩),if_neg (fun e=>hn ⟨hk,by omega⟩)]
  ·rw [if_neg hk]
 obtain ⟨hk,h1⟩:=isB_iff.1 h
 obtain ⟨a0,ab,bn⟩:=hc _ (getK_mem hi)
 rw [e,nbL,List.flatMap_append,← nbL,h0,List.nil_append,List.flatMap_cons]
 have:oneL v (getK cs i) = [u]:=by
  unfold oneL
  rw [if_pos hk]
  by_cases e1:(getK cs i).a.toNat = v
  ·rw [if_pos e1]; congr 1; omega
  ·rw [if_neg e1,if_pos (by omega)]; congr 1; omega
 rw [this]; rfl
def Fst (cs:List Cr) (last v:Int) (k:Nat) (x:Int):Prop :=
 (x = -1 ∧ ∀ j:Nat,j < k → ¬ (isB cs v j = true ∧ (j:Int) ≠ last)) ∨ ∃ i:Nat,x = i ∧ i < k ∧ (isB cs v i = true ∧ (i:Int) ≠ last) ∧ ∀ j:Nat,j < i → ¬ (isB cs v j = true ∧ (j:Int) ≠ last)
theorem Fst.start (cs:List Cr) (last v:Int):Fst cs last v 0 (-1):=.inl ⟨rfl,fun j hj=>by omega⟩
theorem Fst.stay {cs:List Cr} {last v:Int} {k:Nat} {x:Int} (h:Fst cs last v k x) (hs:0 ≤ x ∨ ¬ (isB cs v k = true ∧ (k:Int) ≠ last)):Fst cs last v (k + 1) x:=by
 rcases h with ⟨rfl,h⟩ | ⟨i,rfl,h1,h2,h3⟩
 ·refine .inl ⟨rfl,fun j hj=>?_⟩
  by_cases e:j = k
  ·subst e; exact hs.resolve_left (by omega)
  ·exact h j (by omega)
 ·exact .inr ⟨i,rfl,by omega,h2,h3⟩
theorem Fst.take {cs:List Cr} {last v:Int} {k:Nat} {x:Int} (h:Fst cs last v k x) (hx:x < 0) (hs:isB cs v k = true ∧ (k:Int) ≠ last):Fst cs last v (k + 1) k:=by
 rcases h with ⟨rfl,h⟩ | ⟨i,rfl,h1,h2,h3⟩
 ·exact .inr ⟨k,rfl,by omega,hs,fun j hj=>h j hj⟩
 ·omega
def LastOk (cs:List Cr) (m:Nat) (last:Int):Prop :=
 (m = 1 ∧ last = -1) ∨ ∃ (i p:Nat),m = p + 2 ∧ last = i ∧ i < cs.length ∧ isB cs (Wk.w (nbL cs) (p + 1)) i = true ∧ (getK cs i).a + (getK cs i).b - Wk.w (nbL cs) (p + 1) = Wk.w (nbL cs) p
theorem Fst.next {ps:List Pt} {cs:List Cr} (h:nmsOk ps cs = true) {M m:Nat} (hb:Bck cs M) (hm0:0 < m) (hm:m ≤ M) {last x:Int} (hl:LastOk cs m last) (hx:Fst cs last (Wk.w (nbL cs) (m - 1)) cs.length x) :
  ∃ i:Nat,x = i ∧ i < cs.length ∧ (getK cs i).a + (getK cs i).b - Wk.w (nbL cs) (m - 1) = Wk.w (nbL cs) m ∧ LastOk cs (m + 1) x:=by
 have hc:=nmsOk_cin h
 have G:=nb_gr h
 have hnb:=Wk.w_nb G hb.d (m - 1) (by omega)
 rw [show m - 1 + 1 = m by omega] at hnb
 rcases hl with ⟨rfl,rfl⟩ | ⟨e,p,rfl,rfl,hel,he1,he2⟩
 ·simp only [Nat.sub_self] at *
  rcases hx with ⟨rfl,hno⟩ | ⟨i,rfl,hi,⟨h1,-⟩,hno⟩
  ·obtain ⟨j,hj,g1,-⟩:=nb_isB hc hnb
   exact absurd ⟨g1,by omega⟩ (hno j hj)
  ·obtain ⟨u,hu,hun,hui⟩:=isB_nb hc hi h1
   have hh:=nb_head hc hi h1 hu fun j hj hB=>hno j hj ⟨hB,by omega⟩
   have hw:Wk.w (nbL cs) 1 = u:=hh
   exact ⟨i,rfl,hi,by rw [hu,hw],.inr ⟨i,0,rfl,rfl,hi,by rw [show 0 + 1 = 1 from rfl,hw]; exact hui,by rw [show 0 + 1 = 1 from rfl,hw]; omega⟩⟩
 ·simp only [show p + 2 - 1 = p + 1 by omega] at *
  obtain ⟨w1,w2⟩:=Wk.w_ne G hb.d (k:=p) (by omega)
  rcases hx with ⟨rfl,hno⟩ | ⟨i,rfl,hi,⟨h1,hne⟩,hno⟩
  ·obtain ⟨j,hj,g1,g2⟩:=nb_isB hc hnb
   refine absurd ⟨g1,fun e'=>?_⟩ (hno j hj)
   obtain rfl:j = e:=by omega
   rw [he2] at g2
   exact w1 (by omega)
  ·obtain ⟨u,hu,hun,hui⟩:=isB_nb hc hi h1
   have hw:u = Wk.w (nbL cs) (p + 2):=(w2 u hun).resolve_left fun e'=>hne (by
    have:=isB_inj h hi hel h1 he1 (by omega)
    rw [this])
   subst hw
   exact ⟨i,rfl,hi,hu,.inr ⟨i,p + 1,rfl,rfl,hi,hui,by show _ - (Wk.w (nbL cs) (p + 2):Int) = _; omega⟩⟩
end Go.Vai
set_option maxHeartbeats 8000000
namespace Go.Vai
open Pq
theorem anyF_of {α:Type} {p:α → Bool} {l:List α} (h:∀ (j:Nat) (hj:j < l.length),p l[j] = false):l.any p = false:=by
 rw [List.any_eq_false]
 intro x hx
 obtain ⟨j,hj,rfl⟩:=List.getElem_of_mem hx
 simp [h j hj]
theorem h116 (l:List Int) (n:Int) (h:(l.length:Int) ≤ 1048576):PC E 116 [.i (.sl (l.map encI)),.i (.int .i64 n)] [.i (.bool (l.any fun x=>decide (x = n)))]:=by
 refine zP hE Proofs.Tryz.func116 Proofs.Tryz.ntmps116 rfl rfl ?_
 simp (maxSteps:=999999) (disch:=first|exact {}|omega|simp) [zS]
 refine XL.by hE (ι:={ k:Nat // k ≤ l.length ∧ ∀ (j:Nat) (hj:j < l.length),j < k → decide (l[j] = n) = false }) (fun k=>⟨[(0,.i (.sl (l.map encI))),(1,.i (.int .i64 n)),(5,.i (.int .i64 k.1))],[]⟩)
  (fun k=>l.length - k.1) ⟨0,Nat.zero_le _,by simp⟩ ⟨by simp,by simp,by simp⟩ (by kernel_rfl) ?_
 rintro ⟨k,hk,hno⟩
 by_cases hlt:k < l.length
 ·simp (maxSteps:=999999) (disch:=first|exact {}|omega|simp) [zS,hlt,encI]
  (first | refine Gd.dec (fun h4=>?_) (fun h4=>?_) | refine Gd.intro (fun h4=>?_) (fun h4=>?_)) <;> simp (maxSteps:=999999) (disch:=first|exact {}|omega|simp) [zS,h4]
  ·subst h4; simp
  ·(refine ⟨⟨k + 1,by omega,step_no (p:=fun x=>decide (x = n)) hno hlt (by simp [h4])⟩,by (simp; try omega), ?_⟩; constructor <;> (simp (maxSteps:=999999) (disch:=first|exact {}|omega|simp) [zS]) <;> (try omega))
 ·have:=anyF_of (p:=fun x=>decide (x = n)) (l:=l) fun j hj=>hno j hj (by omega)
  rw [List.any_eq_false] at this
  simp (maxSteps:=999999) (disch:=first|exact {}|omega|simp) [zS,hlt]
  simpa using this
def LI (L:List Nat):List Int:=L.map fun v:Nat=>(v:Int)
@[simp] theorem LI_len (L:List Nat):(LI L).length = L.length:=by simp [LI]
theorem LI_snoc (L:List Nat) (v:Nat):LI (L ++ [v]) = LI L ++ [(v:Int)]:=by simp [LI]
theorem LI_has (L:List Nat) {x:Int} (hx:0 ≤ x):((LI L).any fun y=>decide (y = x)) = decide (x.toNat ∈ L):=by
 rw [Bool.eq_iff_iff,List.any_eq_true,decide_eq_true_eq]
 simp only [LI,List.mem_map,decide_eq_true_eq]
 constructor
 ·rintro ⟨y,⟨v,hv,rfl⟩,rfl⟩; simpa using hv
 ·intro h; exact ⟨(x.toNat:Int),⟨x.toNat,h,rfl⟩,by omega⟩
theorem See.len_le {n:Nat} {cs:List Cr} {L:List Nat} (h:See n cs L):L.length ≤ n:=by
 have hs:=Wk.sumTo_mem (n:=n) h.nd h.bd
 have:=Wk.sumTo_le (f:=fun v=>if v ∈ L then 2 else 0) (g:=fun _=>2) (fun v=>by split <;> omega) n
 rw [hs,sum_two] at this
 omega
def Cl1 (cs:List Cr) (L:List Nat) (u i:Nat):Prop:=∀ j,j < i → ((getK cs j).a.toNat = u → (getK cs j).b.toNat ∈ L) ∧ ((getK cs j).b.toNat = u → (getK cs j).a.toNat ∈ L)
theorem Cl1.mono {cs:List Cr} {L L':List Nat} {u i:Nat} (h:Cl1 cs L u i) (hL:∀ v ∈ L,v ∈ L'):Cl1 cs L' u i:=fun j hj=>⟨fun e=>hL _ ((h j hj).1 e),fun e=>hL _ ((h j hj).2 e)⟩
theorem Cl1.next {cs:List Cr} {L:List Nat} {u i:Nat} (h:Cl1 cs L u i) (h1:(getK cs i).a.toNat = u → (getK cs i).b.toNat ∈ L) (h2:(getK cs i).b.toNat = u → (getK cs i).a.toNat ∈ L):Cl1 cs L u (i + 1):=fun j hj=>by
 by_cases e:j = i
 ·subst e; exact ⟨h1,h2⟩
 ·exact h j (by omega)
def Cls (cs:List Cr) (L:List Nat) (k:Nat):Prop:=∀ (j u:Nat),j < k → L[j]? = some u → Cl1 cs L u cs.length
theorem Cls.done {n:Nat} {cs:List Cr} {L:List Nat} (hS:See n cs L) (h:Cls cs L L.length):conB n cs = decide (L.length = n):=by
 refine hS.done fun c hc=>?_
 obtain ⟨i,hi,rfl⟩:=List.getElem_of_mem hc
 rw [← (getK_get hi).2]
 constructor
 ·intro hm
  obtain ⟨j,hj,he⟩:=List.getElem_of_mem hm
  exact (h j _ hj (by rw [List.getElem?_eq_getElem hj,he]) i hi).1 rfl
 ·intro hm
  obtain ⟨j,hj,he⟩:=List.getElem_of_mem hm
  exact (h j _ hj (by rw [List.getElem?_eq_getElem hj,he]) i hi).2 rfl
theorem pre_get {L L' t:List Nat} (h:L' = L ++ t) {j:Nat} (hj:j < L.length):L'[j]? = L[j]?:=by rw [h,List.getElem?_append_left hj]
theorem c88 (ps:List Pt) (cs:List Cr) (hcin:∀ c ∈ cs,Cin ps.length c) (hn:0 < ps.length) (h:(ps.length:Int) ≤ 1048576) (hc:(cs.length:Int) ≤ 1048576) :
  PC E 88 [.i (.ptr (encPa ps cs))] [.i (.bool (conB ps.length cs))]:=by
 refine zP hE Proofs.Tryz.func88 Proofs.Tryz.ntmps88 rfl rfl ?_
 simp (maxSteps:=999999) (disch:=first|exact {}|omega|simp) [zS,encPa]
 refine XL.by hE (ι:={ p:List Nat × Nat // See ps.length cs p.1 ∧ p.2 ≤ p.1.length ∧ Cls cs p.1 p.2 }) (fun p=>⟨[(0,.i (.ptr (encPa ps cs))),(3,.own 7 0 p.1.1.length),(4,.i (.int .i64 p.1.2))],[(7,⟨1,(LI p.1.1).map encI⟩)]⟩)
  (fun p=>ps.length - p.1.2) ⟨([0],0),See.start hn cs,Nat.zero_le _,fun j u hj=>absurd hj (Nat.not_lt_zero _)⟩ ⟨by simp [encPa],by simp [LI,encI],by simp⟩ (by kernel_rfl) ?_
 rintro ⟨⟨L,k⟩,hS,hk,hC⟩
 simp only at hS hk hC
 have hLn:=hS.len_le
 by_cases hlt:k < L.length
 ·simp (maxSteps:=999999) (disch:=first|exact {}|omega|simp) [zS,hlt,encPa]
  refine XL.by hE (ι:={ p:List Nat × Nat // See ps.length cs p.1 ∧ (∃ t,p.1 = L ++ t) ∧ p.2 ≤ cs.length ∧ Cl1 cs p.1 L[k] p.2 }) (fun p=>⟨[(0,.i (.ptr (encPa ps cs))),(3,.own 7 0 p.1.1.length),(4,.i (.int .i64 k)),(5,.i (.int .i64 p.1.2))],[(7,⟨1,(LI p.1.1).map encI⟩)]⟩)
   (fun p=>cs.length - p.1.2) ⟨(L,0),hS,⟨[],by simp⟩,Nat.zero_le _,fun j hj=>absurd hj (Nat.not_lt_zero _)⟩ ⟨by simp [encPa],by simp,by simp⟩ (by kernel_rfl) ?_
  rintro ⟨⟨M,i⟩,hS2,⟨t,ht⟩,hi,hD⟩
  simp only at hS2 ht hi hD
  have hMn:=hS2.len_le
  have hkM:k < M.length:=by rw [ht,List.length_append]; omega
  have hgM:M[k]? = some L[k]:=by rw [pre_get ht hlt,List.getElem?_eq_getElem hlt]
  have huM:L[k] ∈ M:=List.mem_of_getElem? hgM
  by_cases hil:i < cs.length
  ·obtain ⟨hg,he⟩:=getK_get hil
   have hci:=hcin _ (List.getElem_mem hil)
   have hmem:getK cs i ∈ cs:=by rw [he]; exact List.getElem_mem hil
   rw [← he] at hci
   have hun:=hS2.bd _ huM
   have hadd:=fun (v:Nat) (hv:v < ps.length) (hno:v ∉ M)=>hS2.add huM hv hno hmem
   have hnx:=fun (M':List Nat) (hM':∀ v ∈ M,v ∈ M')=>(hD.mono hM').next (i:=i)
   have hgL:((LI M).map encI)[k]? = some [.int .i64 (L[k]:Int)]:=by
    simp only [LI,List.map_map,List.getElem?_map,hgM]; rfl
   have hgL2:=(List.getElem?_eq_some_iff.1 hgL).2
   clear he hmem
   generalize hcc:getK cs i = c at *
   obtain ⟨a0,ab,bn⟩:=hci
   generalize hu:L[k] = u at *
   have hMt:List.take M.length ((LI M).map encI) = (LI M).map encI:=List.take_of_length_le (by simp)
   have hasb:=LI_has M (x:=c.b) (by omega)
   have hasa:=LI_has M (x:=c.a) a0
   by_cases h1:c.a = (u:Int)
   ·have h2:¬ c.b = (u:Int):=by omega
    by_cases hb:c.b.toNat ∈ M
    ·rw [decide_eq_true hb] at hasb
     simp (maxSteps:=999999) (disch:=first|exact {}|omega|simp) [zS,hil,hg,encK,hkM,hgL,hgL2,h1,hMt,encPa]
     refine zC (h116 (LI M) c.b (by simp; omega)) ?_
     simp (maxSteps:=999999) (disch:=first|exact {}|omega|simp) [zS,hasb,hil,hg,encK,hkM,hgL,hgL2,h1,h2,hMt,encPa]
     (refine ⟨⟨(M,i + 1),hS2,⟨t,ht⟩,by simp; omega,hnx M (fun _ h=>h) (fun _=>hb) (fun e=>absurd e (by omega))⟩,by (simp; try omega), ?_⟩; constructor <;> (simp (maxSteps:=999999) (disch:=first|exact {}|omega|simp) [zS,encPa]) <;> (try omega))
    ·rw [decide_eq_false hb] at hasb
     have hS3:=hadd c.b.toNat (by omega) hb (.inl ⟨by omega,rfl⟩)
     have hbc:((c.b.toNat:Nat):Int) = c.b:=by omega
     have hgk:(((LI M).map encI) ++ [[.int .i64 c.b]])[k]? = some [.int .i64 (u:Int)]:=by
      rw [List.getElem?_append_left (by simpa using hkM)]; exact hgL
     have hgk2:=(List.getElem?_eq_some_iff.1 hgk).2
     have hle:=hS3.len_le
     simp at hle
     simp (maxSteps:=999999) (disch:=first|exact {}|omega|simp) [zS,hil,hg,encK,hkM,hgL,hgL2,h1,hMt,encPa]
     refine zC (h116 (LI M) c.b (by simp; omega)) ?_
     simp (maxSteps:=999999) (disch:=first|exact {}|omega|simp) [zS,hasb,hil,hg,encK,hkM,hgL,hgL2,h1,h2,hMt,hgk,hgk2,encPa]
     (refine ⟨⟨(M ++ [c.b.toNat],i + 1),hS3,⟨t ++ [c.b.toNat],by rw [ht,List.append_assoc]⟩,by simp; omega,hnx _ (fun v h=>List.mem_append.2 (.inl h)) (fun _=>by simp) (fun e=>absurd e (by omega))⟩,by (simp; try omega), ?_⟩; constructor <;> (simp (maxSteps:=999999) (disch:=first|exact {}|omega|simp) [zS,encPa,LI_snoc,hbc,encI,hMt]) <;> (try omega))
   ·by_cases h2:c.b = (u:Int)
    ·by_cases ha:c.a.toNat ∈ M
     ·rw [decide_eq_true ha] at hasa
      simp (maxSteps:=999999) (disch:=first|exact {}|omega|simp) [zS,hil,hg,encK,hkM,hgL,hgL2,h1,h2,hMt,encPa]
      refine zC (h116 (LI M) c.a (by simp; omega)) ?_
      simp (maxSteps:=999999) (disch:=first|exact {}|omega|simp) [zS,hasa,hil,hg,encK,hkM,hgL,hgL2,h1,h2,hMt,encPa]
      (refine ⟨⟨(M,i + 1),hS2,⟨t,ht⟩,by simp; omega,hnx M (fun _ h=>h) (fun e=>absurd e (by omega)) (fun _=>ha)⟩,by (simp; try omega), ?_⟩; constructor <;> (simp (maxSteps:=999999) (disch:=first|exact {}|omega|simp) [zS,encPa]) <;> (try omega))
     ·rw [decide_eq_false ha] at hasa
      have hS3:=hadd c.a.toNat (by omega) ha (.inr ⟨rfl,by omega⟩)
      have hac:((c.a.toNat:Nat):Int) = c.a:=by omega
      have hle:=hS3.len_le
      simp at hle
      simp (maxSteps:=999999) (disch:=first|exact {}|omega|simp) [zS,hil,hg,encK,hkM,hgL,hgL2,h1,h2,hMt,encPa]
      refine zC (h116 (LI M) c.a (by simp; omega)) ?_
      simp (maxSteps:=999999) (disch:=first|exact {}|omega|simp) [zS,hasa,hil,hg,encK,hkM,hgL,hgL2,h1,h2,hMt,encPa]
      (refine ⟨⟨(M ++ [c.a.toNat],i + 1),hS3,⟨t ++ [c.a.toNat],by rw [ht,List.append_assoc]⟩,by simp; omega,hnx _ (fun v h=>List.mem_append.2 (.inl h)) (fun e=>absurd e (by omega)) (fun _=>by simp)⟩,by (simp; try omega), ?_⟩; constructor <;> (simp (maxSteps:=999999) (disch:=first|exact {}|omega|simp) [zS,encPa,LI_snoc,hac,encI,hMt]) <;> (try omega))
    ·simp (maxSteps:=999999) (disch:=first|exact {}|omega|simp) [zS,hil,hg,encK,hkM,hgL,hgL2,h1,h2,hMt,encPa]
     (refine ⟨⟨(M,i + 1),hS2,⟨t,ht⟩,by simp; omega,hnx M (fun _ h=>h) (fun e=>absurd e (by omega)) (fun e=>absurd e (by omega))⟩,by (simp; try omega), ?_⟩; constructor <;> (simp (maxSteps:=999999) (disch:=first|exact {}|omega|simp) [zS,encPa]) <;> (try omega))
  ·obtain rfl:i = cs.length:=by omega
   have hC2:Cls cs M (k + 1):=fun j u hj hu=>by
    by_cases e:j = k
    ·subst e; rw [hgM] at hu; obtain rfl:=Option.some.inj hu; exact hD
    ·rw [pre_get ht (by omega)] at hu
     exact (hC j u (by omega) hu).mono fun v hv=>by rw [ht]; exact List.mem_append.2 (.inl hv)
   simp (maxSteps:=999999) (disch:=first|exact {}|omega|simp) [zS,encPa]
   (refine ⟨⟨(M,k + 1),hS2,by simp; omega,hC2⟩,by (simp; try omega), ?_⟩; constructor <;> (simp (maxSteps:=999999) (disch:=first|exact {}|omega|simp) [zS,encPa]) <;> (try omega))
 ·obtain rfl:k = L.length:=by omega
  have hd:=hC.done hS
  by_cases e:L.length = ps.length
  ·rw [decide_eq_true e] at hd
   simp (maxSteps:=999999) (disch:=first|exact {}|omega|simp) [zS,hd,e,encPa]
  ·rw [decide_eq_false e] at hd
   simp (maxSteps:=999999) (disch:=first|exact {}|omega|simp) [zS,hd,e,encPa]
end Go.Vai
namespace Go.Vai
theorem c97 (c:Cr) (k:Int) (h0:0 ≤ c.a) (h1:c.a ≤ 1048576) (h2:0 ≤ c.b) (h3:c.b ≤ 1048576) (h4:0 ≤ k) (h5:k ≤ 1048576):PC E 97 [.agg (encK c),.i (.int .i64 k)] [.i (.int .i64 (c.a + c.b - k))]:=by
 refine zP hE Proofs.Tryz.func97 Proofs.Tryz.ntmps97 rfl rfl ?_
 simp (maxSteps:=999999) (disch:=first|exact {}|omega|simp) [zS,encK]
def dg (cs:List Cr) (n k:Nat):List Int:=(List.range n).map fun v=>((nbL (cs.take k) v).length:Int)
@[simp] theorem dg_len (cs:List Cr) (n k:Nat):(dg cs n k).length = n:=by simp [dg]
theorem dg_get (cs:List Cr) {n k v:Nat} (h:v < n):(dg cs n k)[v]? = some ((nbL (cs.take k) v).length:Int):=by simp [dg,h]
theorem dg_zero (cs:List Cr) (n:Nat):dg cs n 0 = List.replicate n 0:=by
 refine List.ext_getElem? fun v=>?_
 by_cases h:v < n
 ·rw [dg_get cs h]; simp [nbL,h]
 ·rw [List.getElem?_eq_none (by simp; omega),List.getElem?_eq_none (by simp; omega)]
theorem nbL_take {cs:List Cr} {k:Nat} (h:k < cs.length) (v:Nat):nbL (cs.take (k + 1)) v = nbL (cs.take k) v ++ oneL v (getK cs k):=by
 rw [List.take_succ_eq_append_getElem h,nbL_snoc,(getK_get h).2]
theorem dg_same {cs:List Cr} {n k:Nat} (h:k < cs.length) (hk:¬ (getK cs k).k = 1):dg cs n (k + 1) = dg cs n k:=by
 unfold dg
 congr 1
 funext v
 rw [nbL_take h,oneL,if_neg hk,List.append_nil]
theorem dg_step {cs:List Cr} {n k:Nat} (h:k < cs.length) (hk:(getK cs k).k = 1) (hc:Cin n (getK cs k)) :
  dg cs n (k + 1) = ((dg cs n k).set (getK cs k).a.toNat ((nbL (cs.take k) (getK cs k).a.toNat).length + 1)).set (getK cs k).b.toNat ((nbL (cs.take k) (getK cs k).b.toNat).length + 1):=by
 obtain ⟨a0,ab,bn⟩:=hc
 have hab:(getK cs k).a.toNat ≠ (getK cs k).b.toNat:=by omega
 refine List.ext_getElem? fun v=>?_
 by_cases hv:v < n
 ·rw [dg_get cs hv,nbL_take h,oneL,if_pos hk]
  by_cases e1:(getK cs k).b.toNat = v
  ·subst e1
   rw [if_neg hab,if_pos rfl,List.getElem?_set_self (by simp; omega)]; simp
  ·rw [List.getElem?_set_ne e1]
   by_cases e2:(getK cs k).a.toNat = v
   ·subst e2
    rw [if_pos rfl,List.getElem?_set_self (by simp; omega)]; simp
   ·rw [if_neg e2,if_neg e1,List.append_nil,List.getElem?_set_ne e2,dg_get cs hv]
 ·rw [List.getElem?_eq_none (by simp; omega),List.getElem?_eq_none (by simp; omega)]
theorem oneL_len (v:Nat) (c:Cr):(oneL v c).length ≤ 1:=by
 unfold oneL; split <;> (try split) <;> (try split) <;> simp
theorem nbI_len0:∀ (l:List Cr) (v:Nat),(nbL l v).length ≤ l.length
 | [],v=>by simp [nbL]
 | c :: l,v=>by
  have h1:=nbI_len0 l v
  have h2:=oneL_len v c
  rw [nbL_cons,List.length_append,List.length_cons]
  omega
theorem bcnt_snoc {cs:List Cr} {k:Nat} (h:k < cs.length):bcnt (cs.take (k + 1)) = bcnt (cs.take k) + if (getK cs k).k = 1 then 1 else 0:=by
 rw [List.take_succ_eq_append_getElem h,(getK_get h).2]
 unfold bcnt
 rw [List.filter_append,List.length_append]
 congr 1
 by_cases hk:(cs[k]).k = 1 <;> simp [hk]
theorem bcnt_le (l:List Cr):bcnt l ≤ l.length:=List.length_filter_le _ _
noncomputable def rndS (n:Nat) (cs:List Cr):List Int:=if degB n cs = true then rndI cs else []
theorem deg_no {n:Nat} {cs:List Cr} {v:Nat} (hv:v < n) (h0:¬ (nbL cs v).length = 0) (h2:¬ (nbL cs v).length = 2):degB n cs = false:=by
 cases h:degB n cs with
 | false=>rfl
 | true=>exact absurd ((degB_iff.1 h).1 v hv) (by omega)
theorem okR_no {ps:List Pt} {cs:List Cr} (hnm:nmsOk ps cs = true) (h:degB ps.length cs = false):okR cs = false:=by
 cases ho:okR cs with
 | false=>rfl
 | true =>
  by_cases hn:0 < ps.length
  ·rw [okR_deg hnm hn ho] at h; simp at h
  ·have hcs:cs = []:=by
    cases cs with
    | nil=>rfl
    | cons c l =>
     have:=nmsOk_cin hnm c (by simp)
     obtain ⟨a0,ab,bn⟩:=this
     omega
   subst hcs
   have:brdM [] = 0:=brdM_no fun ⟨m,hm⟩=>by
    have:=(hm.d 0 hm.m0).1
    simp [nbL] at this
   unfold okR at ho
   rw [this] at ho
   simp at ho
theorem c178 (ps:List Pt) (cs:List Cr) (hnm:nmsOk ps cs = true) (h:(ps.length:Int) ≤ 1048576) (hc:(cs.length:Int) ≤ 1048576) :
  PC E 178 [.i (.ptr (encPa ps cs))] [.own 1 ((rndS ps.length cs).map encI),.i (.bool (okR cs))]:=by
 have hcin:=nmsOk_cin hnm
 refine zP hE Proofs.Tryz.func178 Proofs.Tryz.ntmps178 rfl rfl ?_
 simp (maxSteps:=999999) (disch:=first|exact {}|omega|simp) [zS,encPa]
 refine XL.by hE (ι:={ k:Nat // k ≤ cs.length }) (fun k=>⟨[(0,.i (.ptr (encPa ps cs))),(4,.i (.int .i64 (bcnt (cs.take k.1)))),(5,.own 20 0 ps.length),(6,.i (.int .i64 k.1))],[(20,⟨1,(dg cs ps.length k.1).map encI⟩)]⟩)
  (fun k=>cs.length - k.1) ⟨0,Nat.zero_le _⟩ ⟨by simp [encPa,bcnt],by simp [dg_zero,encI],by simp⟩ (by kernel_rfl) ?_
 rintro ⟨k,hk⟩
 by_cases hlt:k < cs.length
 ·obtain ⟨hg,he⟩:=getK_get hlt
  have hci:=hcin _ (List.getElem_mem hlt)
  rw [← he] at hci
  have hbc:=bcnt_snoc hlt
  have hbl:=bcnt_le (cs.take k)
  have hsm:=dg_same (n:=ps.length) hlt
  have hst:=fun hk=>dg_step (n:=ps.length) hlt hk hci
  have hlk:(cs.take k).length = k:=by simp; omega
  have hdl:=fun v=>nbI_len0 (cs.take k) v
  have hga:=fun (v:Nat) (hv:v < ps.length)=>dg_get cs (k:=k) hv
  clear he
  generalize getK cs k = c at *
  obtain ⟨a0,ab,bn⟩:=hci
  by_cases hk1:c.k = 1
  ·have na:¬ c.a < 0:=by omega
   have nb:¬ c.b < 0:=by omega
   have la:c.a.toNat < ps.length:=by omega
   have lb:c.b.toNat < ps.length:=by omega
   have hab:c.a.toNat ≠ c.b.toNat:=by omega
   have ga:((dg cs ps.length k).map encI)[c.a.toNat]? = some [.int .i64 ((nbL (cs.take k) c.a.toNat).length:Int)]:=by rw [List.getElem?_map,hga _ la]; rfl
   have gb:((dg cs ps.length k).map encI)[c.b.toNat]? = some [.int .i64 ((nbL (cs.take k) c.b.toNat).length:Int)]:=by rw [List.getElem?_map,hga _ lb]; rfl
   have da:=hdl c.a.toNat
   have db:=hdl c.b.toNat
   have hst2:(dg cs ps.length (k + 1)).map encI = (((dg cs ps.length k).map encI).set c.a.toNat [.int .i64 (((nbL (cs.take k) c.a.toNat).length:Int) + 1)]).set c.b.toNat [.int .i64 (((nbL (cs.take k) c.b.toNat).length:Int) + 1)]:=by
    rw [hst hk1]; simp [List.map_set,encI]
   have hlD:((dg cs ps.length k).map encI).length = ps.length:=by simp
   have ga2:=(List.getElem?_eq_some_iff.1 ga).2
   have gb2:=(List.getElem?_eq_some_iff.1 gb).2
   generalize (dg cs ps.length k).map encI = D at *
   simp (maxSteps:=999999) (disch:=first|exact {}|omega|simp) [zS,hlt,hg,encK,hk1,na,nb,la,lb,hlD,ga,gb,ga2,gb2,hab,encPa]
   (refine ⟨⟨k + 1,by omega⟩,by (simp; try omega), ?_⟩; constructor <;> (simp (maxSteps:=999999) (disch:=first|exact {}|omega|simp) [zS,encPa,hst2,hbc,hk1]) <;> (try omega))
  ·have hs:=hsm hk1
   simp (maxSteps:=999999) (disch:=first|exact {}|omega|simp) [zS,hlt,hg,encK,hk1,encPa]
   (refine ⟨⟨k + 1,by omega⟩,by (simp; try omega), ?_⟩; constructor <;> (simp (maxSteps:=999999) (disch:=first|exact {}|omega|simp) [zS,encPa,hs,hbc,hk1]) <;> (try omega))
 obtain rfl:k = cs.length:=by omega
 have hbl:=bcnt_le cs
 simp (maxSteps:=999999) (disch:=first|exact {}|omega|simp) [zS,encPa]
 have hga:=fun (v:Nat) (hv:v < ps.length)=>dg_get cs (k:=cs.length) hv
 have hdl:=fun v=>nbI_len0 cs v
 simp only [List.take_length] at hga ⊢
 have hlD:((dg cs ps.length cs.length).map encI).length = ps.length:=by simp
 have hgD:∀ v:Nat,v < ps.length → ((dg cs ps.length cs.length).map encI)[v]? = some [.int .i64 ((nbL cs v).length:Int)]:=fun v hv=>by rw [List.getElem?_map,hga v hv]; rfl
 generalize (dg cs ps.length cs.length).map encI = D at *
 refine XL.by hE (ι:={ k:Nat // k ≤ ps.length ∧ ∀ v,v < k → (nbL cs v).length = 0 ∨ (nbL cs v).length = 2 }) (fun k=>⟨[(0,.i (.ptr (encPa ps cs))),(4,.i (.int .i64 (bcnt cs))),(5,.own 20 0 ps.length),(7,.i (.int .i64 k.1))],[(20,⟨1,D⟩)]⟩)
  (fun k=>ps.length - k.1) ⟨0,Nat.zero_le _,fun v hv=>absurd hv (Nat.not_lt_zero _)⟩ ⟨by simp [encPa],by simp,by simp⟩ (by kernel_rfl) ?_
 rintro ⟨k,hk,hdeg⟩
 by_cases hlt:k < ps.length
 ·have g1:=hgD k hlt
  have g2:=(List.getElem?_eq_some_iff.1 g1).2
  have dk:=hdl k
  by_cases e0:(nbL cs k).length = 0
  ·have e0':((nbL cs k).length:Int) = 0:=by omega
   rw [e0'] at g1
   replace g2:=(List.getElem?_eq_some_iff.1 g1).2
   simp (maxSteps:=999999) (disch:=first|exact {}|omega|simp) [zS,hlt,hlD,g1,g2]
   (refine ⟨⟨k + 1,by omega,fun v hv=>by
    by_cases e:v = k
    ·subst e; exact .inl e0
    ·exact hdeg v (by omega)⟩,by (simp; try omega), ?_⟩; constructor <;> (simp (maxSteps:=999999) (disch:=first|exact {}|omega|simp) [zS,encPa]) <;> (try omega))
  ·by_cases e2:(nbL cs k).length = 2
   ·have e2':((nbL cs k).length:Int) = 2:=by omega
    rw [e2'] at g1
    replace g2:=(List.getElem?_eq_some_iff.1 g1).2
    simp (maxSteps:=999999) (disch:=first|exact {}|omega|simp) [zS,hlt,hlD,g1,g2]
    (refine ⟨⟨k + 1,by omega,fun v hv=>by
     by_cases e:v = k
     ·subst e; exact .inr e2
     ·exact hdeg v (by omega)⟩,by (simp; try omega), ?_⟩; constructor <;> (simp (maxSteps:=999999) (disch:=first|exact {}|omega|simp) [zS,encPa]) <;> (try omega))
   ·have hd:=deg_no hlt e0 e2
    have hr:rndS ps.length cs = []:=by unfold rndS; rw [hd]; rfl
    have ho:=okR_no hnm hd
    generalize (nbL cs k).length = q at *
    simp (maxSteps:=999999) (disch:=first|exact {}|omega|simp) [zS,hlt,hlD,g1,g2,e0,e2,hr,ho]
 obtain rfl:k = ps.length:=by omega
 simp (maxSteps:=999999) (disch:=first|exact {}|omega|simp) [zS]
 by_cases hn:ps.length = 0
 ·have hd:degB ps.length cs = false:=by
   cases h:degB ps.length cs with
   | false=>rfl
   | true=>exact absurd (degB_iff.1 h).2.1 (by omega)
  have hr:rndS ps.length cs = []:=by unfold rndS; rw [hd]; rfl
  have ho:=okR_no hnm hd
  have hps:ps = []:=List.length_eq_zero_iff.1 hn
  subst hps
  have hr':rndS 0 cs = []:=hr
  simp (maxSteps:=999999) (disch:=first|exact {}|omega|simp) [zS,hn,hr',ho]
 have hn0:0 < ps.length:=by omega
 have hpn:ps ≠ []:=fun e=>hn (by rw [e]; rfl)
 have g1:=hgD 0 hn0
 have g2:=(List.getElem?_eq_some_iff.1 g1).2
 by_cases e2:(nbL cs 0).length = 2
 rotate_left
 ·have hd:degB ps.length cs = false:=by
   cases h:degB ps.length cs with
   | false=>rfl
   | true=>exact absurd (degB_iff.1 h).2.2 e2
  have hr:rndS ps.length cs = []:=by unfold rndS; rw [hd]; rfl
  have ho:=okR_no hnm hd
  generalize (nbL cs 0).length = q at *
  simp (maxSteps:=999999) (disch:=first|exact {}|omega|simp) [zS,hn,hn0,hpn,hlD,g1,g2,e2,hr,ho]
 have hd:degB ps.length cs = true:=degB_iff.2 ⟨hdeg,hn0,e2⟩
 have hB:=deg_bck hnm hd
 have hr:rndS ps.length cs = rndI cs:=by unfold rndS; rw [if_pos hd]
 have hG:=nb_gr hnm
 have hM:rndI cs = rngI cs (brdM cs):=rfl
 have hoR:okR cs = decide ((brdM cs:Int) = bcnt cs):=by
  have:=hB.m0
  unfold okR
  by_cases q:brdM cs = bcnt cs
  ·rw [decide_eq_true q,decide_eq_true (show (brdM cs:Int) = bcnt cs by omega),decide_eq_true this]; rfl
  ·rw [decide_eq_false q,decide_eq_false (show ¬ (brdM cs:Int) = bcnt cs by omega)]; simp
 have hMb:=bck_le hnm hn0 hB.d
 generalize brdM cs = M at *
 have e2':((nbL cs 0).length:Int) = 2:=by omega
 rw [e2'] at g1
 replace g2:=(List.getElem?_eq_some_iff.1 g1).2
 simp (maxSteps:=999999) (disch:=first|exact {}|omega|simp) [zS,hn,hn0,hpn,hlD,g1,g2]
 have hw0:Wk.w (nbL cs) 0 = 0:=rfl
 refine XL.by hE (ι:={ p:Nat × Int // 0 < p.1 ∧ p.1 ≤ M ∧ LastOk cs p.1 p.2 ∧ -1 ≤ p.2 ∧ p.2 < cs.length }) (fun p=>⟨[(0,.i (.ptr (encPa ps cs))),(4,.i (.int .i64 (bcnt cs))),(8,.own 94 0 p.1.1),(9,.i (.int .i64 p.1.2))],[(94,⟨1,(rngI cs p.1.1).map encI⟩)]⟩)
  (fun p=>M - p.1.1) ⟨(1,-1),Nat.one_pos,hB.m0,.inl ⟨rfl,rfl⟩,by simp,by simp; omega⟩ ⟨by simp [encPa],by simp [rngI,hw0,encI],by simp⟩ (by kernel_rfl) ?_
 rintro ⟨⟨m,last⟩,hm0,hmM,hLast,hl0,hl1⟩
 simp only at hm0 hmM hLast hl0 hl1
 have hgm:((rngI cs m).map encI)[m - 1]? = some [.int .i64 (Wk.w (nbL cs) (m - 1):Int)]:=by rw [List.getElem?_map,rngI_get cs (by omega)]; rfl
 have hgm2:=(List.getElem?_eq_some_iff.1 hgm).2
 have hrl:=rngI_len cs m
 have em:((m:Int) - 1).toNat = m - 1:=by omega
 have em0:¬ ((m:Int) - 1 < 0):=by omega
 have eml:m - 1 < m:=by omega
 have hwb:=Wk.w_bd hG hn0 (hB.d.le hmM) (m - 1) (by omega)
 have hwm:=Wk.w_bd hG hn0 (hB.d.le hmM) m (Nat.le_refl _)
 simp (maxSteps:=999999) (disch:=first|exact {}|omega|simp) [zS,hgm,hgm2,hrl,em,em0,eml]
 generalize hat:Wk.w (nbL cs) (m - 1) = at_ at *
 refine XL.by hE (ι:={ p:Nat × Int // p.1 ≤ cs.length ∧ Fst cs last at_ p.1 p.2 ∧ -1 ≤ p.2 ∧ p.2 < cs.length }) (fun p=>⟨[(0,.i (.ptr (encPa ps cs))),(4,.i (.int .i64 (bcnt cs))),(8,.own 94 0 m),(9,.i (.int .i64 last)),(10,.i (.int .i64 at_)),(11,.i (.int .i64 p.1.2)),(12,.i (.int .i64 p.1.1))],[(94,⟨1,(rngI cs m).map encI⟩)]⟩)
  (fun p=>cs.length - p.1.1) ⟨(0,-1),Nat.zero_le _,Fst.start cs last at_,by simp,by simp; omega⟩ ⟨by simp [encPa],by simp,by simp⟩ (by kernel_rfl) ?_
 rintro ⟨⟨i,x⟩,hi,hF,hx0,hx1⟩
 simp only at hi hF hx0 hx1
 by_cases hil:i < cs.length
 ·obtain ⟨hg,he⟩:=getK_get hil
  have hBi:isB cs at_ i = true ↔ (getK cs i).k = 1 ∧ ((getK cs i).a = at_ ∨ (getK cs i).b = at_):=isB_iff
  clear he
  generalize getK cs i = c at *
  by_cases hk1:c.k = 1
  rotate_left
  ·simp (maxSteps:=999999) (disch:=first|exact {}|omega|simp) [zS,hil,hg,encK,hk1,encPa]
   (refine ⟨⟨(i + 1,x),by simp; omega,hF.stay (.inr fun h=>hk1 (hBi.1 h.1).1),hx0,hx1⟩,by (simp; try omega), ?_⟩; constructor <;> (simp (maxSteps:=999999) (disch:=first|exact {}|omega|simp) [zS,encPa]) <;> (try omega))
  by_cases hil2:(i:Int) = last
  ·subst hil2
   simp (maxSteps:=999999) (disch:=first|exact {}|omega|simp) [zS,hil,hg,encK,hk1,encPa]
   (refine ⟨⟨(i + 1,x),by simp; omega,hF.stay (.inr fun h=>h.2 rfl),hx0,hx1⟩,by (simp; try omega), ?_⟩; constructor <;> (simp (maxSteps:=999999) (disch:=first|exact {}|omega|simp) [zS,encPa]) <;> (try omega))
  by_cases ha:c.a = (at_:Int)
  ·by_cases hx:x < 0
   ·simp (maxSteps:=999999) (disch:=first|exact {}|omega|simp) [zS,hil,hg,encK,hk1,hil2,ha,hx,encPa]
    (refine ⟨⟨(i + 1,(i:Int)),by simp; omega,hF.take hx ⟨hBi.2 ⟨hk1,.inl ha⟩,hil2⟩,by first | (simp; done) | (simp; omega) | omega,by first | (simp; done) | (simp; omega) | omega⟩,by (simp; try omega), ?_⟩; constructor <;> (simp (maxSteps:=999999) (disch:=first|exact {}|omega|simp) [zS,encPa]) <;> (try omega))
   ·simp (maxSteps:=999999) (disch:=first|exact {}|omega|simp) [zS,hil,hg,encK,hk1,hil2,ha,hx,encPa]
    (refine ⟨⟨(i + 1,x),by simp; omega,hF.stay (.inl (by omega)),hx0,hx1⟩,by (simp; try omega), ?_⟩; constructor <;> (simp (maxSteps:=999999) (disch:=first|exact {}|omega|simp) [zS,encPa]) <;> (try omega))
  by_cases hb:c.b = (at_:Int)
  ·by_cases hx:x < 0
   ·simp (maxSteps:=999999) (disch:=first|exact {}|omega|simp) [zS,hil,hg,encK,hk1,hil2,ha,hb,hx,encPa]
    (refine ⟨⟨(i + 1,(i:Int)),by simp; omega,hF.take hx ⟨hBi.2 ⟨hk1,.inr hb⟩,hil2⟩,by first | (simp; done) | (simp; omega) | omega,by first | (simp; done) | (simp; omega) | omega⟩,by (simp; try omega), ?_⟩; constructor <;> (simp (maxSteps:=999999) (disch:=first|exact {}|omega|simp) [zS,encPa]) <;> (try omega))
   ·simp (maxSteps:=999999) (disch:=first|exact {}|omega|simp) [zS,hil,hg,encK,hk1,hil2,ha,hb,hx,encPa]
    (refine ⟨⟨(i + 1,x),by simp; omega,hF.stay (.inl (by omega)),hx0,hx1⟩,by (simp; try omega), ?_⟩; constructor <;> (simp (maxSteps:=999999) (disch:=first|exact {}|omega|simp) [zS,encPa]) <;> (try omega))
  ·simp (maxSteps:=999999) (disch:=first|exact {}|omega|simp) [zS,hil,hg,encK,hk1,hil2,ha,hb,encPa]
   (refine ⟨⟨(i + 1,x),by simp; omega,hF.stay (.inr fun h=>(hBi.1 h.1).2.elim ha hb),hx0,hx1⟩,by (simp; try omega), ?_⟩; constructor <;> (simp (maxSteps:=999999) (disch:=first|exact {}|omega|simp) [zS,encPa]) <;> (try omega))
 obtain rfl:i = cs.length:=by omega
 subst hat
 obtain ⟨j,rfl,hj,hto,hL2⟩:=hF.next hnm hB hm0 hmM hLast
 obtain ⟨hg,he⟩:=getK_get hj
 have hci:=hcin _ (List.getElem_mem hj)
 rw [← he] at hci
 clear he
 generalize getK cs j = c at *
 obtain ⟨a0,ab,bn⟩:=hci
 simp (maxSteps:=999999) (disch:=first|exact {}|omega|simp) [zS,hj,hg,encPa]
 refine zC (c97 c (Wk.w (nbL cs) (m - 1)) a0 (by omega) (by omega) (by omega) (by omega) (by omega)) ?_
 rw [hto]
 have hrt:List.take m ((rngI cs m).map encI) = (rngI cs m).map encI:=List.take_of_length_le (by simp [hrl])
 by_cases hz:Wk.w (nbL cs) m = 0
 ·have hmM2:m = M:=by
   have hBm:Bck cs m:=⟨hm0,hB.d.le hmM,hz⟩
   exact hBm.uniq hB
  subst hmM2
  simp (maxSteps:=999999) (disch:=first|exact {}|omega|simp) [zS,hz,hr,hM,hoR,hrt,hrl]
 ·have hz':¬ (Wk.w (nbL cs) m:Int) = 0:=by omega
  have hlt2:m < M:=by
   rcases Nat.lt_or_ge m M with h | h
   ·exact h
   ·obtain rfl:m = M:=by omega
    exact absurd hB.z hz
  have hsn2:=rngI_snoc cs m
  simp (maxSteps:=999999) (disch:=first|exact {}|omega|simp) [zS,hz,hz',hrt,hrl]
  (refine ⟨⟨(m + 1,(j:Int)),by simp,by simp; omega,hL2,by first | (simp; done) | (simp; omega) | omega,by first | (simp; done) | (simp; omega) | omega⟩,by (simp; try omega), ?_⟩; constructor <;> (simp (maxSteps:=999999) (disch:=first|exact {}|omega|simp) [zS,encPa,hsn2,encI,hrt,hrl]) <;> (try omega))
end Go.Vai
namespace Go.Vai
theorem nth_map (ps:List Pt) (l:List Int) {k:Nat} (h:k < l.length):nth (l.map (pI ps)) k = pI ps l[k]:=by
 rw [nth_eq (by simpa using h)]; simp
theorem c180 (ps:List Pt) (cs:List Cr) (hv:∀ p ∈ ps,PV p) (l:List Int) (hl:∀ i ∈ l,0 ≤ i ∧ i < ps.length) (h:(l.length:Int) ≤ 1048576) :
  PC E 180 [.i (.ptr (encPa ps cs)),.i (.sl (l.map encI))] [.own 6 (encPs (bendN (l.map (pI ps)) l.length))]:=by
 refine zP hE Proofs.Tryz.func180 Proofs.Tryz.ntmps180 rfl rfl ?_
 simp (maxSteps:=999999) (disch:=first|exact {}|omega|simp) [zS]
 refine XL.by hE (ι:={ k:Nat // k ≤ l.length }) (fun k=>⟨[(0,.i (.ptr (encPa ps cs))),(1,.i (.sl (l.map encI))),(5,.own 81 0 (bendN (l.map (pI ps)) k.1).length),(6,.i (.int .i64 l.length)),(7,.i (.int .i64 k.1))],[(81,⟨6,encPs (bendN (l.map (pI ps)) k.1)⟩)]⟩)
  (fun k=>l.length - k.1) ⟨0,Nat.zero_le _⟩ ⟨by simp [bendN],by simp [bendN,encPs],by simp⟩ (by kernel_rfl) ?_
 rintro ⟨k,hk⟩
 have hbl:=bendN_len (l.map (pI ps)) k
 by_cases hlt:k < l.length
 ·have m1:(k + l.length - 1) % l.length < l.length:=Nat.mod_lt _ (by omega)
  have m2:(k + 1) % l.length < l.length:=Nat.mod_lt _ (by omega)
  have e1:((k:Int) + l.length - 1).tmod l.length = (((k + l.length - 1) % l.length:Nat):Int):=by
   rw [show (k:Int) + l.length - 1 = ((k + l.length - 1:Nat):Int) by omega]; rfl
  have e2:((k:Int) + 1).tmod l.length = (((k + 1) % l.length:Nat):Int):=by
   rw [show (k:Int) + 1 = ((k + 1:Nat):Int) by omega]; rfl
  have hne:l ≠ []:=by rintro rfl; simp at hlt
  have hnl:¬ (l.length:Int) = 0:=by omega
  have tX:List.take (bendN (l.map (pI ps)) k).length (encPs (bendN (l.map (pI ps)) k)) = encPs (bendN (l.map (pI ps)) k):=List.take_of_length_le (by simp [encPs])
  have hb:bendB (l.map (pI ps)) k = decide (dirR (pminus (pI ps l[k]) (pI ps (l[(k + l.length - 1) % l.length]))) ≠ dirR (pminus (pI ps (l[(k + 1) % l.length])) (pI ps l[k]))):=by
   unfold bendB
   rw [List.length_map,nth_map ps l hlt,nth_map ps l m1,nth_map ps l m2]
  have hst:bendN (l.map (pI ps)) (k + 1) = bendN (l.map (pI ps)) k ++ if bendB (l.map (pI ps)) k = true then [pI ps l[k]] else []:=by
   rw [← nth_map ps l hlt]; rfl
  have gI:∀ (j:Nat) (hj:j < l.length),(l.map encI)[j]? = some [.int .i64 l[j]]:=fun j hj=>by simp [hj,encI]
  have gP:∀ (j:Nat) (hj:j < l.length),¬ l[j] < 0 ∧ (l[j]).toNat < ps.length ∧ (encPs ps)[(l[j]).toNat]? = some (encP (pI ps l[j])) ∧ PV (pI ps l[j]):=fun j hj=>by
   obtain ⟨b0,b1⟩:=hl _ (List.getElem_mem hj)
   exact ⟨by omega,by omega,encPs_get (l:=ps) (k:=(l[j]).toNat) (by omega),pI_pv hv b0 b1⟩
  have g0:=gI k hlt
  have g1:=gI _ m1
  have g2:=gI _ m2
  obtain ⟨n0,b0,p0,v0⟩:=gP k hlt
  obtain ⟨n1,b1,p1,v1⟩:=gP _ m1
  obtain ⟨n2,b2,p2,v2⟩:=gP _ m2
  have d1:=c125 (pminus (pI ps l[k]) (pI ps (l[(k + l.length - 1) % l.length]))) (v0.minus v1) (by decide) (by decide)
  have d2:=c125 (pminus (pI ps (l[(k + 1) % l.length])) (pI ps l[k])) (v2.minus v0) (by decide) (by decide)
  have s1:=c126 (pI ps l[k]) (pI ps (l[(k + l.length - 1) % l.length])) v0 v1 (by decide) (by decide)
  have s2:=c126 (pI ps (l[(k + 1) % l.length])) (pI ps l[k]) v2 v0 (by decide) (by decide)
  clear gI gP v0 v1 v2
  have hLE:(l.map encI).length = l.length:=by simp
  generalize l.map encI = LE at *
  have g0':=(List.getElem?_eq_some_iff.1 g0).2
  have g1':=(List.getElem?_eq_some_iff.1 g1).2
  have g2':=(List.getElem?_eq_some_iff.1 g2).2
  generalize bendB (l.map (pI ps)) k = bB at *
  generalize l[k] = z0 at *
  generalize (k + l.length - 1) % l.length = i1 at *
  generalize (k + 1) % l.length = i2 at *
  generalize l[i1] = z1 at *
  generalize l[i2] = z2 at *
  simp (maxSteps:=999999) (disch:=first|exact {}|omega|simp) [zS,hlt,g0,g0',hLE,n0,b0,p0,encPa]
  refine zC (c124 _) ?_
  simp (maxSteps:=999999) (disch:=first|exact {}|omega|simp) [zS,hlt,g1,g1',hLE,n1,b1,p1,hnl,hne,e1,m1,encPa]
  refine zC (c124 _) ?_
  simp (maxSteps:=999999) (disch:=first|exact {}|omega|simp) [zS]
  refine zC (s1) ?_
  simp (maxSteps:=999999) (disch:=first|exact {}|omega|simp) [zS]
  refine zC (d1) ?_
  simp (maxSteps:=999999) (disch:=first|exact {}|omega|simp) [zS,hlt,g2,g2',hLE,n2,b2,p2,hnl,hne,e2,m2,encPa]
  refine zC (c124 _) ?_
  simp (maxSteps:=999999) (disch:=first|exact {}|omega|simp) [zS]
  refine zC (s2) ?_
  simp (maxSteps:=999999) (disch:=first|exact {}|omega|simp) [zS]
  refine zC (d2) ?_
  simp (maxSteps:=999999) (disch:=first|exact {}|omega|simp) [zS]
  by_cases u1:dirR (pminus (pI ps z0) (pI ps z1)) = dirR (pminus (pI ps z2) (pI ps z0))
  ·have hs:bendN (l.map (pI ps)) (k + 1) = bendN (l.map (pI ps)) k:=by rw [hst,hb,decide_eq_false (by simpa using u1)]; simp
   simp (maxSteps:=999999) (disch:=first|exact {}|omega|simp) [zS,u1]
   (refine ⟨⟨k + 1,by omega⟩,by (simp; try omega), ?_⟩; constructor <;> (simp (maxSteps:=999999) (disch:=first|exact {}|omega|simp) [zS,hs,encPa]) <;> (try omega))
  ·have hs:bendN (l.map (pI ps)) (k + 1) = bendN (l.map (pI ps)) k ++ [pI ps z0]:=by rw [hst,hb,decide_eq_true u1]; simp
   have hs2:encPs (bendN (l.map (pI ps)) (k + 1)) = encPs (bendN (l.map (pI ps)) k) ++ [encP (pI ps z0)]:=by rw [hs]; simp [encPs]
   have hs3:(bendN (l.map (pI ps)) (k + 1)).length = (bendN (l.map (pI ps)) k).length + 1:=by rw [hs]; simp
   simp (maxSteps:=999999) (disch:=first|exact {}|omega|simp) [zS,u1,hlt,g0,g0',hLE,n0,b0,p0,encPa]
   (refine ⟨⟨k + 1,by omega⟩,by (simp; try omega), ?_⟩; constructor <;> (simp (maxSteps:=999999) (disch:=first|exact {}|omega|simp) [zS,hs2,hs3,tX,encPa]) <;> (try omega))
 ·obtain rfl:k = l.length:=by omega
  have tX:List.take (bendN (l.map (pI ps)) l.length).length (encPs (bendN (l.map (pI ps)) l.length)) = encPs (bendN (l.map (pI ps)) l.length):=List.take_of_length_le (by simp [encPs])
  simp (maxSteps:=999999) (disch:=first|exact {}|omega|simp) [zS,tX]
theorem leastF_one (l:List Pt):leastF l 1 = 0:=by
 unfold leastF
 split <;> rfl
theorem c181 (l:List Pt) (hv:∀ p ∈ l,PV p) (h:(l.length:Int) ≤ 1048576):PC E 181 [.i (.sl (encPs l))] [.own 6 (encPs (rot0 l))]:=by
 by_cases h0:l = []
 ·subst h0
  refine zP hE Proofs.Tryz.func181 Proofs.Tryz.ntmps181 rfl rfl ?_
  simp (maxSteps:=999999) (disch:=first|exact {}|omega|simp) [zS]
  refine XL.by hE (ι:=Unit) (fun _=>⟨[(0,.i (.sl [])),(3,.i (.int .i64 0)),(4,.i (.int .i64 1))],[]⟩) (fun _=>0) () ⟨by simp [encPs],by simp,by simp⟩ (by kernel_rfl) ?_
  rintro ⟨⟩
  simp (maxSteps:=999999) (disch:=first|exact {}|omega|simp) [zS,rot0,encPs]
 have hlp:0 < l.length:=List.length_pos_iff.2 h0
 refine zP hE Proofs.Tryz.func181 Proofs.Tryz.ntmps181 rfl rfl ?_
 simp (maxSteps:=999999) (disch:=first|exact {}|omega|simp) [zS]
 refine XL.by hE (ι:={ k:Nat // 1 ≤ k ∧ k ≤ l.length }) (fun k=>⟨[(0,.i (.sl (encPs l))),(3,.i (.int .i64 (leastF l k.1))),(4,.i (.int .i64 k.1))],[]⟩)
  (fun k=>l.length - k.1) ⟨1,Nat.le_refl _,hlp⟩ ⟨by simp [leastF_one],by simp,by simp⟩ (by kernel_rfl) ?_
 rintro ⟨k,hk1,hk⟩
 by_cases hlt:k < l.length
 ·have hlk:=leastF_lt hk hlp
  simp (maxSteps:=999999) (disch:=first|exact {}|omega|simp) [zS,hlt,hlk,encPs_get hlt,encPs_get hlk]
  refine zC (c130 (nth l k) (nth l (leastF l k)) (hv _ (nth_mem hlt)) (hv _ (nth_mem hlk)) (by decide) (by decide)) ?_
  simp (maxSteps:=999999) (disch:=first|exact {}|omega|simp) [zS]
  (first | refine Gd.dec (fun hc=>?_) (fun hc=>?_) | refine Gd.intro (fun hc=>?_) (fun hc=>?_)) <;> simp (maxSteps:=999999) (disch:=first|exact {}|omega|simp) [zS,hc]
  ·(refine ⟨⟨k + 1,by omega,by omega⟩,by (simp; try omega), ?_⟩; constructor <;> (simp (maxSteps:=999999) (disch:=first|exact {}|omega|simp) [zS,leastF,hc]) <;> (try omega))
  ·(refine ⟨⟨k + 1,by omega,by omega⟩,by (simp; try omega), ?_⟩; constructor <;> (simp (maxSteps:=999999) (disch:=first|exact {}|omega|simp) [zS,leastF,hc]) <;> (try omega))
 ·obtain rfl:k = l.length:=by omega
  have hle:leastF l l.length = least l:=rfl
  have hlk:least l < l.length:=leastF_lt (Nat.le_refl _) hlp
  have ht:List.take (l.length - least l) (List.drop (least l) (encPs l)) = encPs (l.drop (least l)):=by rw [encPs_drop]; exact List.take_of_length_le (by simp)
  have ht2:List.take (least l) (encPs l) = encPs (l.take (least l)):=encPs_take _ _
  have tX:List.take (l.length - least l) (encPs (l.drop (least l))) = encPs (l.drop (least l)):=List.take_of_length_le (by simp)
  have hL1:(encPs (l.drop (least l))).length = l.length - least l:=by simp
  have hL2:(encPs (l.take (least l))).length = least l:=by simp; omega
  have e0:(l.length:Int) - (least l:Int) + (least l:Int) = l.length:=by omega
  have hro:encPs (rot0 l) = encPs (l.drop (least l)) ++ encPs (l.take (least l)):=by rw [rot0,encPs_append]
  have hrl:(rot0 l).length = l.length:=by simp [rot0]; omega
  have tY:List.take l.length (encPs (l.drop (least l)) ++ encPs (l.take (least l))) = encPs (l.drop (least l)) ++ encPs (l.take (least l)):=List.take_of_length_le (by simp; omega)
  simp (maxSteps:=999999) (disch:=first|exact {}|omega|simp) [zS,hlt,hle,hlk,Nat.le_of_lt hlk,mem_encPs,ht,ht2,tX,hro,hrl,tY,hL1,hL2,encPs_append]
theorem c184 (l:List Pt) (h:(l.length:Int) ≤ 1048576):PC E 184 [.i (.sl (encPs l))] [.own 6 (encPs l.reverse)]:=by
 refine zP hE Proofs.Tryz.func184 Proofs.Tryz.ntmps184 rfl rfl ?_
 simp (maxSteps:=999999) (disch:=first|exact {}|omega|simp) [zS]
 refine XL.by hE (ι:={ k:Nat // k ≤ l.length }) (fun k=>⟨[(0,.i (.sl (encPs l))),(3,.own 19 0 k.1),(4,.i (.int .i64 ((l.length:Int) - 1 - k.1)))],[(19,⟨6,encPs (l.reverse.take k.1)⟩)]⟩)
  (fun k=>l.length - k.1) ⟨0,Nat.zero_le _⟩ ⟨by simp,by simp [encPs],by simp⟩ (by kernel_rfl) ?_
 rintro ⟨k,hk⟩
 have hkl:(l.reverse.take k).length = k:=by simp; omega
 have tX:List.take k (encPs (l.reverse.take k)) = encPs (l.reverse.take k):=List.take_of_length_le (by simp [encPs]; omega)
 by_cases hlt:k < l.length
 ·have hj:l.length - 1 - k < l.length:=by omega
  have ej:((l.length:Int) - 1 - k).toNat = l.length - 1 - k:=by omega
  have ej0:¬ ((l.length:Int) - 1 - k < 0):=by omega
  have ej1:0 ≤ (l.length:Int) - 1 - k:=by omega
  have hg:=encPs_get hj
  have hst:encPs (l.reverse.take (k + 1)) = encPs (l.reverse.take k) ++ [encP (nth l (l.length - 1 - k))]:=by
   rw [List.take_add_one]
   have:l.reverse[k]? = some (nth l (l.length - 1 - k)):=by rw [List.getElem?_reverse hlt,nth_eq hj,List.getElem?_eq_getElem hj]
   rw [this,encPs_append]; rfl
  simp (maxSteps:=999999) (disch:=first|exact {}|omega|simp) [zS,ej,ej0,ej1,hj,hg,hkl]
  (refine ⟨⟨k + 1,by omega⟩,by (simp; try omega), ?_⟩; constructor <;> (simp (maxSteps:=999999) (disch:=first|exact {}|omega|simp) [zS,hst,tX,hkl]) <;> (try omega))
 ·obtain rfl:k = l.length:=by omega
  have hr:l.reverse.take l.length = l.reverse:=List.take_of_length_le (by simp)
  rw [hr] at tX
  have e0:¬ (0 ≤ (l.length:Int) - 1 - l.length):=by omega
  have e0':¬ ((l.length:Int) ≤ l.length - 1):=by omega
  simp (maxSteps:=999999) (disch:=first|exact {}|omega|simp) [zS,e0,e0',hr,tX]
theorem PC_raw0 {E:Env} {f:FuncId} {args:List AV} {rs:List RV} (h:∀ ad c,PC E f (.i (.raw (.slice ad 0 c)) :: args) rs):PC E f (.i (.sl []) :: args) rs:=by
 refine ⟨(h none 0).goes,fun F w cargs hG hlt hsz hrep=>?_⟩
 have h0:0 < cargs.size:=by rw [hsz]; simp
 have hr:=hrep 0 _ _ rfl (Array.getElem?_eq_getElem h0)
 obtain ⟨ad,c,hv⟩:∃ ad c,cargs[0] = .slice ad 0 c:=by
  generalize cargs[0] = v at hr
  cases hr with | i _ _ hr =>
  rcases hr.sl_inv with ⟨-,a,c,rfl⟩ | ⟨b,off,c,sz',rfl,-⟩
  ·exact ⟨a,c,rfl⟩
  ·exact ⟨_,c,rfl⟩
 refine (h ad c).run F w cargs hG hlt (by simpa using hsz) fun j x v hx hv'=>?_
 cases j with
 | zero =>
  obtain rfl:=Option.some.inj hx
  have:v = cargs[0]:=by rw [Array.getElem?_eq_getElem h0] at hv'; exact (Option.some.inj hv').symm
  rw [this,hv]
  exact .i _ _ (.raw _ rfl)
 | succ j=>exact hrep (j + 1) x v (by simpa using hx) hv'
theorem c251 (l:List Pt) (h:(l.length:Int) ≤ 1048576):PC E 251 [.i (.sl (encPs l))] [.own 6 (encPs l)]:=by
 cases l with
 | nil =>
  refine PC_raw0 fun ad c=>?_
  refine zP hE Proofs.Tryz.func251 Proofs.Tryz.ntmps251 rfl rfl ?_
  cases ad with
  | none=>simp (maxSteps:=999999) (disch:=first|exact {}|omega|simp) [zS,encPs]
  | some b=>simp (maxSteps:=999999) (disch:=first|exact {}|omega|simp) [zS,encPs]
 | cons x l =>
  have hx:encPs (x :: l) = encP x :: encPs l:=rfl
  simp at h
  refine zP hE Proofs.Tryz.func251 Proofs.Tryz.ntmps251 rfl rfl ?_
  simp (maxSteps:=999999) (disch:=first|exact {}|omega|simp) [zS,hx,mem_encPs,encP]
  exact (List.take_of_length_le (by simp)).symm
end Go.Vai
namespace Go.Vai
theorem nth_set {l:List Pt} {a t:Nat} {x:Pt} (h:a < l.length):nth (l.set a x) t = if t = a then x else nth l t:=by
 unfold nth
 by_cases e:t = a
 ·subst e; simp [h]
 ·rw [List.getD_eq_getElem?_getD,List.getElem?_set_ne (fun e'=>e e'.symm),if_neg e,List.getD_eq_getElem?_getD]
theorem nth_rev {l:List Pt} {t:Nat} (h:t < l.length):nth l.reverse t = nth l (l.length - 1 - t):=by
 unfold nth
 rw [List.getD_eq_getElem?_getD,List.getElem?_reverse h,List.getD_eq_getElem?_getD]
theorem ext_nth {l m:List Pt} (hl:l.length = m.length) (h:∀ t,t < l.length → nth l t = nth m t):l = m:=by
 refine List.ext_getElem hl fun t h1 h2=>?_
 have:=h t h1
 rwa [nth_eq h1,nth_eq h2] at this
def Rv (l M:List Pt) (i:Nat):Prop:=∀ t,t < l.length → nth M t = if t < i ∨ l.length - i ≤ t then nth l (l.length - 1 - t) else nth l t
theorem Rv.start (l:List Pt):Rv l l 0:=fun t ht=>by rw [if_neg (by omega)]
theorem Rv.step {l M:List Pt} {i:Nat} (hM:M.length = l.length) (h:Rv l M i) (hi:i < l.length - 1 - i):Rv l ((M.set i (nth M (l.length - 1 - i))).set (l.length - 1 - i) (nth M i)) (i + 1):=fun t ht=>by
 have h1:=h i (by omega)
 have h2:=h (l.length - 1 - i) (by omega)
 rw [if_neg (by omega)] at h1 h2
 rw [nth_set (by simp; omega),nth_set (by omega)]
 by_cases e1:t = l.length - 1 - i
 ·rw [if_pos e1,if_pos (by omega),h1,e1]; congr 1; omega
 ·rw [if_neg e1]
  by_cases e2:t = i
  ·rw [if_pos e2,if_pos (by omega),h2,e2]
  ·rw [if_neg e2,h t ht]
   by_cases e3:t < i ∨ l.length - i ≤ t
   ·rw [if_pos e3,if_pos (by omega)]
   ·rw [if_neg e3,if_neg (by omega)]
theorem Rv.done {l M:List Pt} {i:Nat} (hM:M.length = l.length) (h:Rv l M i) (hi:¬ (i:Int) < (l.length:Int) - 1 - i):M = l.reverse:=by
 refine ext_nth (by simp [hM]) fun t ht=>?_
 rw [hM] at ht
 rw [h t ht,nth_rev ht]
 by_cases e:t < i ∨ l.length - i ≤ t
 ·rw [if_pos e]
 ·rw [if_neg e]; congr 1; omega
theorem c252 (l:List Pt) (h:(l.length:Int) ≤ 1048576):PM E 252 [.sl ⟨6,encPs l⟩] [⟨6,encPs l.reverse⟩] []:=by
 have hel:(encPs l).length = l.length:=by simp [encPs]
 have her:(encPs l.reverse).length = l.length:=by simp [encPs]
 refine PM_start hE Proofs.Tryz.func252 rfl rfl Proofs.Tryz.ntmps252 (by kernel_rfl) (by kernel_rfl) (by simp) (by simp [hel,her]) ?_
 simp (maxSteps:=999999) (disch:=first|exact {}|omega|simp) [zS,hel]
 refine XL.by hE (ι:={ p:Nat × List Pt // p.2.length = l.length ∧ p.1 ≤ l.length ∧ Rv l p.2 p.1 }) (fun p=>⟨[(0,.own 700000 0 l.length),(2,.i (.int .i64 p.1.1)),(3,.i (.int .i64 ((l.length:Int) - 1 - p.1.1)))],[(700000,⟨6,encPs p.1.2⟩)]⟩)
  (fun p=>l.length - p.1.1) ⟨(0,l),rfl,Nat.zero_le _,Rv.start l⟩ ⟨by simp,by simp,by simp⟩ (by kernel_rfl) ?_
 rintro ⟨⟨i,M⟩,hM,hi,hR⟩
 simp only at hM hi hR
 have hML:(encPs M).length = l.length:=by simp [encPs,hM]
 by_cases hlt:(i:Int) < (l.length:Int) - 1 - i
 ·have hj:l.length - 1 - i < l.length:=by omega
  have hil:i < l.length:=by omega
  have ej:((l.length:Int) - 1 - i).toNat = l.length - 1 - i:=by omega
  have ej0:¬ ((l.length:Int) - 1 - i < 0):=by omega
  have gi:(encPs M)[i]? = some (encP (nth M i)):=encPs_get (by omega)
  have gj:(encPs M)[l.length - 1 - i]? = some (encP (nth M (l.length - 1 - i))):=encPs_get (by omega)
  have hS:=hR.step hM (by omega)
  have hset:((encPs M).set i (encP (nth M (l.length - 1 - i)))).set (l.length - 1 - i) (encP (nth M i)) = encPs ((M.set i (nth M (l.length - 1 - i))).set (l.length - 1 - i) (nth M i)):=by simp [encPs,List.map_set]
  have gi2:=(List.getElem?_eq_some_iff.1 gi).2
  have gj2:=(List.getElem?_eq_some_iff.1 gj).2
  have hne:i ≠ l.length - 1 - i:=by omega
  have hSl:((M.set i (nth M (l.length - 1 - i))).set (l.length - 1 - i) (nth M i)).length = l.length:=by simp [hM]
  generalize (M.set i (nth M (l.length - 1 - i))).set (l.length - 1 - i) (nth M i) = M2 at *
  have hp1:∀ p:Pt,(encP p).length = 6:=fun _=>rfl
  generalize encPs M = A at *
  generalize l.length - 1 - i = j at *
  generalize hq1:encP (nth M i) = q1 at *
  generalize hq2:encP (nth M j) = q2 at *
  have hl1:q1.length = 6:=by rw [← hq1]; rfl
  have hl2:q2.length = 6:=by rw [← hq2]; rfl
  have a1:List.take 6 q1 = q1:=List.take_of_length_le (by omega)
  have a2:List.take 6 q2 = q2:=List.take_of_length_le (by omega)
  have a3:List.drop 6 q1 = []:=List.drop_of_length_le (by omega)
  have a4:List.drop 6 q2 = []:=List.drop_of_length_le (by omega)
  simp (maxSteps:=999999) (disch:=first|exact {}|omega|simp) [zS,hlt,ej,ej0,hj,hil,gi,gj,gi2,gj2,hML,hl1,hl2]
  (refine ⟨⟨(i + 1,M2),hSl,by simp; omega,hS⟩,by (simp; try omega), ?_⟩; constructor <;> (simp (maxSteps:=999999) (disch:=first|exact {}|omega|simp) [zS,a1,a2,a3,a4,ej,ej0,hj,hil,gi,gj,gi2,gj2,hML,hl1,hl2,hset]) <;> (try omega))
 ·have hD:=hR.done hM hlt
  simp (maxSteps:=999999) (disch:=first|exact {}|omega|simp) [zS,hlt,hD]
def nrmO (l:List Pt):Option (List Pt):=if l.all vP = true ∧ l.length ≤ 16 then (if polI (rot0 l) = true then some (rot0 l) else if polI (rot0 l.reverse) = true then some (rot0 l.reverse) else none) else none
theorem all_rev {l:List Pt} (h:∀ p ∈ l,PV p):∀ p ∈ l.reverse,PV p:=fun p hp=>h p (by simpa using hp)
theorem c190 (l:List Pt) (h:(l.length:Int) ≤ 1048576):PC E 190 [.i (.sl (encPs l))] [.own 6 (encPs ((nrmO l).getD [])),.i (.bool (nrmO l).isSome)]:=by
 refine law_start hE Proofs.Tryz.func190 rfl rfl Proofs.Tryz.ntmps190 (by kernel_rfl) (by simp) fun F w a hx hf=>?_
 by_cases hall:l.all vP = true
 rotate_left
 ·have hn:nrmO l = none:=by unfold nrmO; rw [if_neg fun e=>hall e.1]
  refine segEnd hE hx (Back.refl _ _) hf (by kernel_rfl) ?_
  simp (maxSteps:=999999) (disch:=first|exact {}|omega|simp) [zS]
  refine zC (c76 l (by omega)) ?_
  simp (maxSteps:=999999) (disch:=first|exact {}|omega|simp) [zS,hall,hn,encPs]
 by_cases h16:l.length ≤ 16
 rotate_left
 ·have hn:nrmO l = none:=by unfold nrmO; rw [if_neg fun e=>h16 e.2]
  have h16':(16:Int) < l.length:=by omega
  refine segEnd hE hx (Back.refl _ _) hf (by kernel_rfl) ?_
  simp (maxSteps:=999999) (disch:=first|exact {}|omega|simp) [zS]
  refine zC (c76 l (by omega)) ?_
  simp (maxSteps:=999999) (disch:=first|exact {}|omega|simp) [zS,hall,hn,h16',encPs]
 have h16':¬ (16:Int) < l.length:=by omega
 have hv:=allV hall
 have hrl:=rot0_len l
 have hrl2:=rot0_len l.reverse
 simp only [List.length_reverse] at hrl2
 have tR1:List.take (rot0 l).length (encPs (rot0 l)) = encPs (rot0 l):=List.take_of_length_le (by simp)
 have tR2:List.take (rot0 l.reverse).length (encPs (rot0 l.reverse)) = encPs (rot0 l.reverse):=List.take_of_length_le (by simp)
 refine seg hE 3 ⟨[(0,.i (.sl (encPs l))),(4,.i (.sl (encPs l.reverse)))],[]⟩ hx (Back.refl _ _) hf (by kernel_rfl) (by kernel_rfl) ?_ fun a w1 hf=>?_
 ·simp (maxSteps:=999999) (disch:=first|exact {}|omega|simp) [zS,cutC]
  refine zC (c76 l (by omega)) ?_
  simp (maxSteps:=999999) (disch:=first|exact {}|omega|simp) [zS,hall,h16']
  refine zC (c251 l (by omega)) ?_
  simp (maxSteps:=999999) (disch:=first|exact {}|omega|simp) [zS]
  refine MutK.of (c252 l (by omega)) (by simp) (by simp) (by simp) (by simp) (by simp) ?_
  simp (maxSteps:=999999) (disch:=first|exact {}|omega|simp) [zS]
  have tX:List.take l.length (encPs l.reverse) = encPs l.reverse:=List.take_of_length_le (by simp)
  exact ⟨by simp (maxSteps:=999999) (disch:=first|exact {}|omega|simp) [zS,tX],by simp (maxSteps:=999999) (disch:=first|exact {}|omega|simp) [zS],by simp (maxSteps:=999999) (disch:=first|exact {}|omega|simp) [zS]⟩
 simp only [restN]
 refine segEnd hE hx (Back.refl _ _) hf (by kernel_rfl) ?_
 simp (maxSteps:=999999) (disch:=first|exact {}|omega|simp) [zS]
 refine XL.by hE (ι:={ k:Nat // k ≤ 2 ∧ (0 < k → polI (rot0 l) = false) ∧ (1 < k → polI (rot0 l.reverse) = false) }) (fun k=>⟨[(22,.i (.sl [[.sl (encPs l)],[.sl (encPs l.reverse)]])),(23,.i (.int .i64 2)),(24,.i (.int .i64 k.1))],[]⟩)
  (fun k=>2 - k.1) ⟨0,by omega,fun h=>absurd h (by omega),fun h=>absurd h (by omega)⟩ ⟨by simp,by simp,by simp⟩ (by kernel_rfl) ?_
 rintro ⟨k,hk,hk1,hk2⟩
 have hcase:k = 0 ∨ k = 1 ∨ k = 2:=by omega
 rcases hcase with rfl | rfl | rfl
 ·simp (maxSteps:=999999) (disch:=first|exact {}|omega|simp) [zS]
  refine zC (c229 l hv (by decide) (by decide) (by omega)) ?_
  simp (maxSteps:=999999) (disch:=first|exact {}|omega|simp) [zS,tR1]
  refine zC (c253 (rot0 l) (by omega)) ?_
  simp (maxSteps:=999999) (disch:=first|exact {}|omega|simp) [zS]
  by_cases hp:polI (rot0 l) = true
  ·have hn:nrmO l = some (rot0 l):=by unfold nrmO; rw [if_pos ⟨hall,h16⟩,if_pos hp]
   simp (maxSteps:=999999) (disch:=first|exact {}|omega|simp) [zS,hp,hn,tR1,tR2]
  ·have hp':polI (rot0 l) = false:=by simpa using hp
   simp (maxSteps:=999999) (disch:=first|exact {}|omega|simp) [zS,hp']
   (refine ⟨⟨1,by omega,fun _=>hp',fun h=>absurd h (by omega)⟩,by (simp; try omega), ?_⟩; constructor <;> (simp (maxSteps:=999999) (disch:=first|exact {}|omega|simp) [zS]) <;> (try omega))
 ·have hp':=hk1 (by omega)
  simp (maxSteps:=999999) (disch:=first|exact {}|omega|simp) [zS]
  refine zC (c229 l.reverse (all_rev hv) (by decide) (by decide) (by simp; omega)) ?_
  simp (maxSteps:=999999) (disch:=first|exact {}|omega|simp) [zS,tR2]
  refine zC (c253 (rot0 l.reverse) (by omega)) ?_
  simp (maxSteps:=999999) (disch:=first|exact {}|omega|simp) [zS]
  by_cases hp:polI (rot0 l.reverse) = true
  ·have hn:nrmO l = some (rot0 l.reverse):=by unfold nrmO; rw [if_pos ⟨hall,h16⟩,if_neg (by rw [hp']; simp),if_pos hp]
   simp (maxSteps:=999999) (disch:=first|exact {}|omega|simp) [zS,hp,hn,tR1,tR2]
  ·have hp2:polI (rot0 l.reverse) = false:=by simpa using hp
   simp (maxSteps:=999999) (disch:=first|exact {}|omega|simp) [zS,hp2]
   (refine ⟨⟨2,by omega,fun _=>hp',fun _=>hp2⟩,by (simp; try omega), ?_⟩; constructor <;> (simp (maxSteps:=999999) (disch:=first|exact {}|omega|simp) [zS]) <;> (try omega))
 ·have hp1:=hk1 (by omega)
  have hp2:=hk2 (by omega)
  have hn:nrmO l = none:=by unfold nrmO; rw [if_pos ⟨hall,h16⟩,if_neg (by rw [hp1]; simp),if_neg (by rw [hp2]; simp)]
  simp (maxSteps:=999999) (disch:=first|exact {}|omega|simp) [zS,hn,encPs]
end Go.Vai
namespace Go.Vai
def insF (l:List Pt) (p:Pt):Nat → Int
 | 0=>1
 | k + 1=>if ornt (nth l k) (nxt l k) p < insF l p k then ornt (nth l k) (nxt l k) p else insF l p k
theorem insF_range (l:List Pt) (p:Pt):∀ k,-1 ≤ insF l p k ∧ insF l p k ≤ 1
 | 0=>by simp [insF]
 | k + 1=>by
  have:=insF_range l p k
  have h:=ornt_range (nth l k) (nxt l k) p
  simp only [insF]
  split <;> omega
def insP (l:List Pt) (p:Pt):Int:=insF l p l.length
theorem c107 (l:List Pt) (p:Pt) (hv:∀ q ∈ l,PV q) (hp:PV p) (h:(l.length:Int) ≤ 1048576):PC E 107 [.i (.sl (encPs l)),.agg (encP p)] [.i (.int .i64 (insP l p))]:=by
 refine zP hE Proofs.Tryz.func107 Proofs.Tryz.ntmps107 rfl rfl ?_
 simp (maxSteps:=999999) (disch:=first|exact {}|omega|simp) [zS]
 refine XL.by hE (ι:={ k:Nat // k ≤ l.length }) (fun k=>⟨[(0,.i (.sl (encPs l))),(3,.ptr 3 0 0),(5,.i (.int .i64 (insF l p k.1))),(8,.i (.sl (encPs l))),(9,.i (.int .i64 l.length)),(10,.i (.int .i64 k.1))],[(3,⟨6,[encP p]⟩)]⟩)
  (fun k=>l.length - k.1) ⟨0,Nat.zero_le _⟩ ⟨by simp [insF],by simp [encP,encN],by simp⟩ (by kernel_rfl) ?_
 rintro ⟨k,hk⟩
 have hir:=insF_range l p k
 by_cases hlt:k < l.length
 ·have hmod:(k + 1) % l.length < l.length:=Nat.mod_lt _ (by omega)
  have eq2:(encPs l)[(k + 1) % l.length]? = some (encP (nxt l k)):=encPs_get hmod
  have hne:¬ l = []:=by rintro rfl; simp at hlt
  have hnl:¬ (l.length:Int) = 0:=by omega
  have rm:((k:Int) + 1).tmod (l.length:Int) = (((k + 1) % l.length:Nat):Int):=by
   rw [Int.tmod_eq_emod_of_nonneg (by omega)]; simp
  have hm0:¬ (((k:Int) + 1) % (l.length:Int) < 0):=by have:=Int.emod_nonneg ((k:Int) + 1) (b:=(l.length:Int)) (by omega); omega
  have hm1:(((k:Int) + 1) % (l.length:Int)).toNat = (k + 1) % l.length:=by
   have:((k:Int) + 1) % (l.length:Int) = (((k + 1) % l.length:Nat):Int):=by simp
   rw [this]; rfl
  have hq:PV (nxt l k):=hv _ (nth_mem hmod)
  have hpk:PV (nth l k):=hv _ (nth_mem hlt)
  have ho:=c193 (nth l k) (nxt l k) p hpk hq hp
  have hst:insF l p (k + 1) = if ornt (nth l k) (nxt l k) p < insF l p k then ornt (nth l k) (nxt l k) p else insF l p k:=rfl
  have g1:=encPs_get hlt
  have l6:∀ p:Pt,(encP p).length = 6:=fun _=>rfl
  generalize ornt (nth l k) (nxt l k) p = o at *
  generalize nth l k = a at *
  generalize nxt l k = b at *
  simp (maxSteps:=999999) (disch:=first|exact {}|omega|simp) [zS,hlt,g1,hne,hnl,rm,hm0,hm1,hmod,eq2,encP,encN]
  refine zC (ho) ?_
  simp (maxSteps:=999999) (disch:=first|exact {}|omega|simp) [zS]
  (refine ⟨⟨k + 1,by omega⟩,by (simp; try omega), ?_⟩; constructor <;> (simp (maxSteps:=999999) (disch:=first|exact {}|omega|simp) [zS,hst,encP,encN]) <;> (try omega))
 ·obtain rfl:k = l.length:=by omega
  simp (maxSteps:=999999) (disch:=first|exact {}|omega|simp) [zS,insP]
theorem c246 (l:List Pt) (p:Pt) (hv:∀ q ∈ l,PV q) (hp:PV p) (hs:∀ k,k < l.length → 0 ≤ dl l k) (h:(l.length:Int) ≤ 1048576):PC E 246 [.i (.sl (encPs l)),.i (.sl ((dls l l.length).map enc1)),.agg (encP p)] [.i (.int .i64 (insP l p))]:=by
 refine zP hE Proofs.Tryz.func246 Proofs.Tryz.ntmps246 rfl rfl ?_
 simp (maxSteps:=999999) (disch:=first|exact {}|omega|simp) [zS]
 refine XL.by hE (ι:={ k:Nat // k ≤ l.length }) (fun k=>⟨[(0,.i (.sl (encPs l))),(1,.i (.sl ((dls l l.length).map enc1))),(5,.ptr 5 0 0),(7,.i (.int .i64 (insF l p k.1))),(8,.i (.int .i64 k.1))],[(5,⟨6,[encP p]⟩)]⟩)
  (fun k=>l.length - k.1) ⟨0,Nat.zero_le _⟩ ⟨by simp [insF],by simp [encP,encN],by simp⟩ (by kernel_rfl) ?_
 rintro ⟨k,hk⟩
 have hir:=insF_range l p k
 by_cases hlt:k < l.length
 ·have hpk:PV (nth l k):=hv _ (nth_mem hlt)
  have hqk:PV (nxt l k):=hv _ (nth_mem (Nat.mod_lt _ (by omega)))
  have hdr:=dl_range l k
  have hd0:=hs k hlt
  have g2:((dls l l.length).map enc1)[k]? = some [.int .i64 (dl l k)]:=dls_get hlt
  have g1:=encPs_get hlt
  have hio:=in_or hpk.pk hqk.pk hp.pk (show 0 ≤ dirR (pminus (nxt l k) (nth l k)) from hd0)
  have hm:=hp.minus hpk
  have hdot:=c129 (dl l k + 4) (pminus p (nth l k)) hm (by decide) (by decide) (by omega) (by omega)
  have hnb:=(vec_PB (d:=(dl l k + 4) % 16) (by omega) (by omega)).dot hm
  have hst:insF l p (k + 1) = if ornt (nth l k) (nxt l k) p < insF l p k then ornt (nth l k) (nxt l k) p else insF l p k:=rfl
  have hsg:=c127 (ndot (vec ((dl l k + 4) % 16)) (pminus p (nth l k))) (hnb.i64 (by decide) (by decide)) (hnb.ne (by decide)).1 (hnb.ne (by decide)).2
  have hmin:=c126 p (nth l k) hp hpk (by decide) (by decide)
  rw [show nsign (ndot (vec ((dl l k + 4) % 16)) (pminus p (nth l k))) = ornt (nth l k) (nxt l k) p from hio] at hsg
  clear hio hnb
  generalize ndot (vec ((dl l k + 4) % 16)) (pminus p (nth l k)) = nd at *
  generalize ornt (nth l k) (nxt l k) p = o at *
  generalize pminus p (nth l k) = mm at *
  generalize (dls l l.length).map enc1 = D at *
  generalize dl l k = d at *
  obtain ⟨hD1,hD2⟩:=List.getElem?_eq_some_iff.1 g2
  simp (maxSteps:=999999) (disch:=first|exact {}|omega|simp) [zS,hlt,g1,g2,hD1,hD2,encP,encN]
  refine zC (hmin) ?_
  simp (maxSteps:=999999) (disch:=first|exact {}|omega|simp) [zS]
  refine zC (hdot) ?_
  simp (maxSteps:=999999) (disch:=first|exact {}|omega|simp) [zS]
  refine zC (hsg) ?_
  simp (maxSteps:=999999) (disch:=first|exact {}|omega|simp) [zS]
  (first | refine Gd.dec (fun h4=>?_) (fun h4=>?_) | refine Gd.intro (fun h4=>?_) (fun h4=>?_)) <;> simp (maxSteps:=999999) (disch:=first|exact {}|omega|simp) [zS,h4]
  ·(refine ⟨⟨k + 1,by omega⟩,by (simp; try omega), ?_⟩; constructor <;> (simp (maxSteps:=999999) (disch:=first|exact {}|omega|simp) [zS,hst,h4,encP,encN]) <;> (try omega))
  ·(refine ⟨⟨k + 1,by omega⟩,by (simp; try omega), ?_⟩; constructor <;> (simp (maxSteps:=999999) (disch:=first|exact {}|omega|simp) [zS,hst,h4,encP,encN]) <;> (try omega))
 ·obtain rfl:k = l.length:=by omega
  simp (maxSteps:=999999) (disch:=first|exact {}|omega|simp) [zS,insP]
def inC (ps paper:List Pt) (c:Cr):Bool:=decide (c.k = 1) || (decide (0 ≤ insP paper (pI ps c.a)) && (decide (0 ≤ insP paper (pI ps c.b)) && crossB paper (pI ps c.a) (pI ps c.b)))
def insAll (ps paper:List Pt) (cs:List Cr):Bool:=cs.all (inC ps paper)
theorem insAll_no {ps paper:List Pt} {cs:List Cr} {k:Nat} (hk:k < cs.length) (h:inC ps paper (getK cs k) = false):insAll ps paper cs = false:=by
 unfold insAll
 rw [List.all_eq_false]
 exact ⟨_,getK_mem hk,by rw [h]; simp⟩
theorem insAll_yes {ps paper:List Pt} {cs:List Cr} (h:∀ k,k < cs.length → inC ps paper (getK cs k) = true):insAll ps paper cs = true:=by
 unfold insAll
 rw [List.all_eq_true]
 intro c hc
 obtain ⟨i,hi,rfl⟩:=List.getElem_of_mem hc
 rw [← (getK_get hi).2]; exact h i hi
theorem c185 (ps:List Pt) (cs:List Cr) (paper:List Pt) (hv:∀ p ∈ ps,vP p = true) (hcin:∀ c ∈ cs,Cin ps.length c) (hpo:polI paper = true) (hc:(cs.length:Int) ≤ 1048576) :
  PC E 185 [.i (.ptr (encPa ps cs)),.i (.sl (cs.map (sgC ps))),.i (.sl (encPs paper))] [.i (.bool (insAll ps paper cs))]:=by
 obtain ⟨hPo,hn3,hn16,hpv⟩:=polI_poly hpo
 have hvp:∀ p ∈ paper,PV p:=fun p hp=>vP_bound (hpv p hp)
 have hsd:∀ k,k < paper.length → 0 ≤ dl paper k:=hPo.d
 have hso:sidesOk paper = true:=sides_yes hsd
 refine zP hE Proofs.Tryz.func185 Proofs.Tryz.ntmps185 rfl rfl ?_
 simp (maxSteps:=999999) (disch:=first|exact {}|omega|simp) [zS]
 refine zC ((c245 paper (by omega)).imm) ?_
 simp (maxSteps:=999999) (disch:=first|exact {}|omega|simp) [zS]
 refine zC (c244 paper hvp (by decide) (by decide) (by omega)) ?_
 have htd:List.take paper.length (List.map enc1 (dls paper paper.length)) = List.map enc1 (dls paper paper.length):=List.take_of_length_le (by simp)
 simp (maxSteps:=999999) (disch:=first|exact {}|omega|simp) [zS,hso]
 refine XL.by hE (ι:={ k:Nat // k ≤ cs.length ∧ ∀ j,j < k → inC ps paper (getK cs j) = true }) (fun k=>⟨[(0,.i (.ptr (encPa ps cs))),(1,.i (.sl (cs.map (sgC ps)))),(7,.i (.sl (encPs paper))),(8,.i (.sl ((dls paper paper.length).map enc1))),(10,.i (.int .i64 k.1))],[]⟩)
  (fun k=>cs.length - k.1) ⟨0,Nat.zero_le _,fun j hj=>absurd hj (Nat.not_lt_zero _)⟩ ⟨by simp [htd],by simp,by simp⟩ (by kernel_rfl) ?_
 rintro ⟨k,hk,hin⟩
 by_cases hlt:k < cs.length
 ·obtain ⟨hg,he⟩:=getK_get hlt
  have hci:=hcin _ (getK_mem hlt)
  have hsg:(cs.map (sgC ps))[k]? = some (sgC ps (getK cs k)):=by rw [he]; simp [hlt]
  have hno:=insAll_no (ps:=ps) (paper:=paper) hlt
  have hyes:inC ps paper (getK cs k) = true → ∀ j,j < k + 1 → inC ps paper (getK cs j) = true:=fun hh j hj=>by
   by_cases e:j = k
   ·subst e; exact hh
   ·exact hin j (by omega)
  clear he
  generalize getK cs k = c at *
  obtain ⟨a0,ab,bn⟩:=hci
  have hva:vP (pI ps c.a) = true:=hv _ (nth_mem (by omega))
  have hvb:vP (pI ps c.b) = true:=hv _ (nth_mem (by omega))
  have i1:=c246 paper (pI ps c.a) hvp (vP_bound hva) hsd (by omega)
  have i2:=c246 paper (pI ps c.b) hvp (vP_bound hvb) hsd (by omega)
  have i3:=c247 paper (pI ps c.a) (pI ps c.b) (crs_of hpo hva hvb)
  have hdef:inC ps paper c = (decide (c.k = 1) || (decide (0 ≤ insP paper (pI ps c.a)) && (decide (0 ≤ insP paper (pI ps c.b)) && crossB paper (pI ps c.a) (pI ps c.b)))):=rfl
  have hst6:∀ a b:Pt,List.take 6 (encS a b) = encP a:=take6
  have hdr6:∀ a b:Pt,List.take 6 (List.drop 6 (encS a b)) = encP b:=drop6
  have hsl:sgC ps c = encS (pI ps c.a) (pI ps c.b):=rfl
  obtain ⟨hS1,hS2⟩:=List.getElem?_eq_some_iff.1 hsg
  rw [hsl] at hsg hS2
  generalize cs.map (sgC ps) = SG at *
  generalize (dls paper paper.length).map enc1 = D at *
  generalize pI ps c.a = pa at *
  generalize pI ps c.b = pb at *
  generalize insP paper pa = ia at *
  generalize insP paper pb = ib at *
  generalize crossB paper pa pb = cb at *
  by_cases hk1:c.k = 1
  ·have:inC ps paper c = true:=by rw [hdef,decide_eq_true hk1]; rfl
   simp (maxSteps:=999999) (disch:=first|exact {}|omega|simp) [zS,hlt,hg,encK,hk1,hS1,encPa]
   (refine ⟨⟨k + 1,by omega,hyes this⟩,by (simp; try omega), ?_⟩; constructor <;> (simp (maxSteps:=999999) (disch:=first|exact {}|omega|simp) [zS,encPa]) <;> (try omega))
  ·simp (maxSteps:=999999) (disch:=first|exact {}|omega|simp) [zS,hlt,hg,encK,hk1,hsg,hS1,hS2,hst6,hdr6,encPa]
   refine zC (i1) ?_
   simp (maxSteps:=999999) (disch:=first|exact {}|omega|simp) [zS,hlt,hg,encK,hk1,hsg,hS1,hS2,hst6,hdr6,encPa]
   by_cases h1:ia < 0
   ·have:inC ps paper c = false:=by rw [hdef,decide_eq_false hk1,decide_eq_false (show ¬ 0 ≤ ia by omega)]; rfl
    simp (maxSteps:=999999) (disch:=first|exact {}|omega|simp) [zS,h1,hno this]
   ·simp (maxSteps:=999999) (disch:=first|exact {}|omega|simp) [zS,h1,hlt,hg,encK,hk1,hsg,hS1,hS2,hst6,hdr6,encPa]
    refine zC (i2) ?_
    simp (maxSteps:=999999) (disch:=first|exact {}|omega|simp) [zS,hlt,hg,encK,hk1,hsg,hS1,hS2,hst6,hdr6,encPa]
    by_cases h2:ib < 0
    ·have:inC ps paper c = false:=by rw [hdef,decide_eq_false hk1,decide_eq_false (show ¬ 0 ≤ ib by omega)]; simp
     simp (maxSteps:=999999) (disch:=first|exact {}|omega|simp) [zS,h2,hno this]
    ·simp (maxSteps:=999999) (disch:=first|exact {}|omega|simp) [zS,h2,hlt,hg,encK,hk1,hsg,hS1,hS2,hst6,hdr6,encPa]
     refine zC (i3) ?_
     simp (maxSteps:=999999) (disch:=first|exact {}|omega|simp) [zS]
     cases cb
     ·have:inC ps paper c = false:=by rw [hdef,decide_eq_false hk1]; simp
      simp (maxSteps:=999999) (disch:=first|exact {}|omega|simp) [zS,hno this]
     ·have:inC ps paper c = true:=by rw [hdef,decide_eq_true (show 0 ≤ ia by omega),decide_eq_true (show 0 ≤ ib by omega)]; simp
      simp (maxSteps:=999999) (disch:=first|exact {}|omega|simp) [zS]
      (refine ⟨⟨k + 1,by omega,hyes this⟩,by (simp; try omega), ?_⟩; constructor <;> (simp (maxSteps:=999999) (disch:=first|exact {}|omega|simp) [zS,encPa]) <;> (try omega))
 ·obtain rfl:k = cs.length:=by omega
  simp (maxSteps:=999999) (disch:=first|exact {}|omega|simp) [zS,insAll_yes hin]
end Go.Vai
namespace Go.Vai
def oneI (v:Int) (c:Cr):List Int:=if c.k = 1 then (if c.a = v then [c.b] else if c.b = v then [c.a] else []) else []
def nbI (l:List Cr) (v:Int):List Int:=l.flatMap (oneI v)
theorem nbI_snoc {cs:List Cr} {k:Nat} (h:k < cs.length) (v:Int):nbI (cs.take (k + 1)) v = nbI (cs.take k) v ++ oneI v (getK cs k):=by
 rw [List.take_succ_eq_append_getElem h,(getK_get h).2,nbI,List.flatMap_append]; simp [nbI]
theorem oneI_len (v:Int) (c:Cr):(oneI v c).length ≤ 1:=by
 unfold oneI; split <;> (try split) <;> (try split) <;> simp
theorem nbI_len (v:Int):∀ l:List Cr,(nbI l v).length ≤ l.length
 | []=>by simp [nbI]
 | c :: l=>by
  have h1:=nbI_len v l
  have h2:=oneI_len v c
  simp only [nbI,List.flatMap_cons,List.length_append,List.length_cons] at h1 ⊢
  omega
theorem nbI_nat {n:Nat} (v:Nat):∀ {cs:List Cr},(∀ c ∈ cs,Cin n c) → nbI cs v = (nbL cs v).map fun x:Nat=>(x:Int)
 | [],_=>rfl
 | c :: l,h=>by
  have ih:=nbI_nat v (cs:=l) fun d hd=>h d (by simp [hd])
  obtain ⟨a0,ab,bn⟩:=h c (by simp)
  rw [nbL_cons,List.map_append,← ih]
  show oneI v c ++ nbI l v = _
  congr 1
  unfold oneI oneL
  by_cases hk:c.k = 1
  ·simp only [hk,if_true]
   by_cases h1:c.a = v
   ·rw [if_pos h1,if_pos (show c.a.toNat = v by omega)]; simp; omega
   ·rw [if_neg h1,if_neg (show ¬ c.a.toNat = v by omega)]
    by_cases h2:c.b = v
    ·rw [if_pos h2,if_pos (show c.b.toNat = v by omega)]; simp; omega
    ·rw [if_neg h2,if_neg (show ¬ c.b.toNat = v by omega)]; rfl
  ·simp [hk]
structure BrI (w0:World) (F:Nat → Prop) (cs:List Cr) (k:Nat) (a:Act) (w:World) (z1:Base) (F1:Nat → Prop) (b base:Nat) (es:Array MapEntry) (clock:Nat):Prop where
 ctx:Ctx E z1 F1
 back:Back (base0 w0) F z1 F1
 fits:Fits z1 F1 98 ⟨[(4,.i (.raw (.map (some b)))),(5,.i (.int .i64 (bcnt (cs.take k)))),(14,.i (.sl (cs.map encK))),(15,.i (.int .i64 cs.length)),(16,.i (.int .i64 k))],[]⟩ a w
 grp:GrpE z1.w 2 base b es clock (nbI (cs.take k))
 out:Out (base0 w0) z1 F1 (GBlk b es)
 bs:base ≤ z1.w.heap.size
theorem fits_bool {z:Base} {F0:Nat → Prop} {n:Nat} {S:St} {a:Act} {w:World} (h:Fits z F0 n S a w) {t:Nat} {b:Bool} (ht:look S.T t = some (.i (.bool b))):a.eval (.tmp t) = .bool b:=by
 obtain ⟨F,ρ,hf⟩:=h
 exact (hf.tmps t _ ht).bool_inv
theorem c189 (ps:List Pt) (cs:List Cr) (hnm:nmsOk ps cs = true) (hp:(ps.length:Int) ≤ 1048576) (hc:(cs.length:Int) ≤ 1048576) :
  PC E 189 [.agg (encPa ps cs)] [.own 1 ((rndI cs).map encI),.i (.bool (okR cs))]:=by
 have hcin:=nmsOk_cin hnm
 refine law_start hE Proofs.Tryz.func189 rfl rfl Proofs.Tryz.ntmps189 (by kernel_rfl) (by simp) fun F w a hx hf=>?_
 refine seg hE 0 ⟨[(1,.ptr 1 0 0)],[(1,⟨2,[encPa ps cs]⟩)]⟩ hx (Back.refl _ _) hf (by kernel_rfl) (by kernel_rfl) ?_ fun a w1 hf=>?_
 ·simp (maxSteps:=999999) (disch:=first|exact {}|omega|simp) [zS,cutC,encPa]
  exact ⟨by simp (maxSteps:=999999) (disch:=first|exact {}|omega|simp) [zS,encPa],by simp (maxSteps:=999999) (disch:=first|exact {}|omega|simp) [zS,encPa],by simp (maxSteps:=999999) (disch:=first|exact {}|omega|simp) [zS]⟩
 simp only [restN]
 refine wp_seq (region_hand hE 0 (S1:=⟨[(1,.ptr 1 0 0)],[(1,⟨2,[encPa ps cs]⟩)]⟩) hx hf (by kernel_rfl) rfl rfl ?_ fun a w2 hf=>?_)
 ·show Rc E _ [] _ _
  simp (maxSteps:=999999) (disch:=first|exact {}|omega|simp) [zS]
  exact ⟨by simp (maxSteps:=999999) (disch:=first|exact {}|omega|simp) [zS],by simp (maxSteps:=999999) (disch:=first|exact {}|omega|simp) [zS],by simp (maxSteps:=999999) (disch:=first|exact {}|omega|simp) [zS]⟩
 refine Oper.wp_mono ?_ (makeMap_wp hx (Back.refl _ _) hf (d:=12) rfl rfl (by decide) 2 _)
 rintro a' w' ⟨z1,F1,b,base,hx1,hb1,hf1,hG,hO,hbs⟩
 refine ⟨z1,F1,_,⟨[(1,.ptr 1 0 0),(4,.i (.raw (.map (some b))))],[(1,⟨2,[encPa ps cs]⟩)]⟩,hx1,hf1, ?_,fun a w3 hf=>?_⟩
 ·simp (maxSteps:=999999) (disch:=first|exact {}|omega|simp) [zS]
  exact ⟨by simp (maxSteps:=999999) (disch:=first|exact {}|omega|simp) [zS],by simp (maxSteps:=999999) (disch:=first|exact {}|omega|simp) [zS],by simp (maxSteps:=999999) (disch:=first|exact {}|omega|simp) [zS]⟩
 show Code.wp _ _ _ _ _
 refine seg hE 0 ⟨[(1,.ptr 1 0 0),(4,.i (.raw (.map (some b)))),(5,.i (.int .i64 0))],[(1,⟨2,[encPa ps cs]⟩)]⟩ hx1 hb1 hf (by kernel_rfl) (by kernel_rfl) ?_ fun a w4 hf=>?_
 ·simp (maxSteps:=999999) (disch:=first|exact {}|omega|simp) [zS,cutC]
  exact ⟨by simp (maxSteps:=999999) (disch:=first|exact {}|omega|simp) [zS],by simp (maxSteps:=999999) (disch:=first|exact {}|omega|simp) [zS],by simp (maxSteps:=999999) (disch:=first|exact {}|omega|simp) [zS]⟩
 simp only [restN]
 refine wp_seq ?_
 refine segN hE 0 ⟨[(4,.i (.raw (.map (some b)))),(5,.i (.int .i64 (bcnt (cs.take 0)))),(14,.i (.sl (cs.map encK))),(15,.i (.int .i64 cs.length)),(16,.i (.int .i64 ((0:Nat):Int)))],[]⟩ hx1 hf (by kernel_rfl) (by kernel_rfl) ?_ fun a w5 hf=>?_
 ·simp (maxSteps:=999999) (disch:=first|exact {}|omega|simp) [zS,cutC,encPa,bcnt]
  exact ⟨by simp (maxSteps:=999999) (disch:=first|exact {}|omega|simp) [zS],by simp (maxSteps:=999999) (disch:=first|exact {}|omega|simp) [zS],by simp (maxSteps:=999999) (disch:=first|exact {}|omega|simp) [zS]⟩
 simp only [restN]
 refine wp_block (loop_hand (ι:={ k:Nat // k ≤ cs.length }) (fun k a w'=>∃ z1 F1 b base es clock,BrI w F cs k.1 a w' z1 F1 b base es clock) (fun k=>cs.length - k.1) ⟨0,Nat.zero_le _⟩ ⟨z1,F1,b,base,#[],0,hx1,hb1,hf,hG,hO,hbs⟩ ?_)
 clear hf hbs hO hG hf1 hb1 hx1
 rintro ⟨k,hk⟩ a w6 ⟨z1,F1,b,base,es,clock,hI⟩
 have hbl:bcnt (cs.take k) ≤ k:=by have:=bcnt_le (cs.take k); simp at this; omega
 by_cases hlt:k < cs.length
 ·obtain ⟨hg,he⟩:=getK_get hlt
  have hci:=hcin _ (List.getElem_mem hlt)
  rw [← he] at hci
  have hsn:=nbI_snoc hlt
  have hbc:=bcnt_snoc hlt
  have hln:=fun v=>nbI_len v (cs.take k)
  have hlk:(cs.take k).length = k:=by simp; omega
  clear he
  generalize getK cs k = cc at *
  obtain ⟨a0,ab,bn⟩:=hci
  refine segN hE 1 ⟨[(4,.i (.raw (.map (some b)))),(5,.i (.int .i64 (bcnt (cs.take k)))),(14,.i (.sl (cs.map encK))),(15,.i (.int .i64 cs.length)),(16,.i (.int .i64 k))],[]⟩ hI.ctx hI.fits (by kernel_rfl) (by kernel_rfl) ?_ fun a w7 hf=>?_
  ·simp (maxSteps:=999999) (disch:=first|exact {}|omega|simp) [zS,cutC,hlt]
   exact ⟨by simp (maxSteps:=999999) (disch:=first|exact {}|omega|simp) [zS],by simp (maxSteps:=999999) (disch:=first|exact {}|omega|simp) [zS],by simp (maxSteps:=999999) (disch:=first|exact {}|omega|simp) [zS]⟩
  simp only [restN]
  refine wp_seq (wp_block ?_)
  refine segN hE 1 ⟨[(4,.i (.raw (.map (some b)))),(5,.i (.int .i64 (bcnt (cs.take k)))),(7,.ptr 7 0 0),(14,.i (.sl (cs.map encK))),(15,.i (.int .i64 cs.length)),(16,.i (.int .i64 k)),(22,.i (.bool (decide (cc.k = 1))))],[(7,⟨3,[encK cc]⟩)]⟩ hI.ctx hf (by kernel_rfl) (by kernel_rfl) ?_ fun a w8 hf=>?_
  ·simp (maxSteps:=999999) (disch:=first|exact {}|omega|simp) [zS,cutC,hlt,hg,encK]
   exact ⟨by simp (maxSteps:=999999) (disch:=first|exact {}|omega|simp) [zS,encK],by simp (maxSteps:=999999) (disch:=first|exact {}|omega|simp) [zS,encK],by simp (maxSteps:=999999) (disch:=first|exact {}|omega|simp) [zS]⟩
  simp only [restN]
  by_cases hk1:cc.k = 1
  ·refine wp_cond_true (by rw [fits_bool hf rfl,decide_eq_true hk1]) ?_
   have hcr:encK cc = crow (fun f=>if f = 0 then cc.a else if f = 1 then cc.b else cc.k):=rfl
   refine wp_seq (mapApp_wp (tm:=4) (tc:=7) (d:=23) (f1:=0) (f2:=1) ⟨rfl,early_of (by kernel_rfl),.of rfl rfl rfl rfl rfl,.of rfl rfl rfl rfl rfl,.of rfl rfl rfl rfl (by kernel_rfl),.of rfl rfl rfl rfl rfl,.of rfl rfl rfl rfl rfl,.of rfl rfl rfl rfl (by kernel_rfl),.of rfl rfl rfl rfl (by kernel_rfl),.of rfl rfl rfl rfl rfl,.of rfl rfl rfl rfl (by kernel_rfl),.of rfl rfl rfl rfl (by kernel_rfl),.of rfl rfl rfl rfl (by kernel_rfl),.of rfl rfl rfl rfl (by kernel_rfl)⟩
    (.inl rfl) (.inr rfl) hI.ctx hI.back hf hI.grp hI.out hI.bs (oc:=7) (c:=fun f=>if f = 0 then cc.a else if f = 1 then cc.b else cc.k) rfl rfl rfl (fun i hi=>by match i,hi with | 0,_ | 1,_ | 2,_ | 3,_ | 4,_ | 5,_ | 6,_ | 7,_ | 8,_ | 9,_ | 10,_=>rfl) (by decide)
    (by have:=hln cc.a; show (nbI (cs.take k) cc.a).length ≤ _; omega) ?_)
   intro a w9 z2 F2 es2 clock2 hx2 hb2 hf2 hG2 hO2 hbs2
   show Code.wp _ _ _ _ _
   refine wp_seq (mapApp_wp (tm:=4) (tc:=7) (d:=34) (f1:=1) (f2:=0) ⟨rfl,early_of (by kernel_rfl),.of rfl rfl rfl rfl rfl,.of rfl rfl rfl rfl rfl,.of rfl rfl rfl rfl (by kernel_rfl),.of rfl rfl rfl rfl rfl,.of rfl rfl rfl rfl rfl,.of rfl rfl rfl rfl (by kernel_rfl),.of rfl rfl rfl rfl (by kernel_rfl),.of rfl rfl rfl rfl rfl,.of rfl rfl rfl rfl (by kernel_rfl),.of rfl rfl rfl rfl (by kernel_rfl),.of rfl rfl rfl rfl (by kernel_rfl),.of rfl rfl rfl rfl (by kernel_rfl)⟩
    (.inr rfl) (.inl rfl) hx2 hb2 hf2 hG2 hO2 hbs2 (oc:=7) (c:=fun f=>if f = 0 then cc.a else if f = 1 then cc.b else cc.k) rfl rfl rfl (fun i hi=>by match i,hi with | 0,_ | 1,_ | 2,_ | 3,_ | 4,_ | 5,_ | 6,_ | 7,_ | 8,_ | 9,_ | 10,_=>rfl) (by decide)
    (by
     have h1:(if cc.b = cc.a then nbI (cs.take k) cc.a ++ [cc.b] else nbI (cs.take k) cc.b) = nbI (cs.take k) cc.b:=if_neg (by omega)
     show (if cc.b = cc.a then nbI (cs.take k) cc.a ++ [cc.b] else nbI (cs.take k) cc.b).length ≤ _
     rw [h1]; have:=hln cc.b; omega) ?_)
   intro a w10 z3 F3 es3 clock3 hx3 hb3 hf3 hG3 hO3 hbs3
   show Code.wp _ _ _ _ _
   refine pieceN hE (normQ ⟨[(4,.i (.raw (.map (some b)))),(5,.i (.int .i64 (bcnt (cs.take (k + 1))))),(14,.i (.sl (cs.map encK))),(15,.i (.int .i64 cs.length)),(16,.i (.int .i64 k))],[]⟩) hx3 hf3 (by kernel_rfl) ?_ fun e s a' w' hq hf'=>?_
   ·simp (maxSteps:=999999) (disch:=first|exact {}|omega|simp) [zS]
    exact ⟨by simp (maxSteps:=999999) (disch:=first|exact {}|omega|simp) [zS,hbc,hk1],by simp (maxSteps:=999999) (disch:=first|exact {}|omega|simp) [zS],by simp (maxSteps:=999999) (disch:=first|exact {}|omega|simp) [zS]⟩
   cases e with
   | normal =>
    have hff:=hf'.le hq
    show Code.wp _ _ _ _ _
    refine pieceN hE (normQ ⟨[(4,.i (.raw (.map (some b)))),(5,.i (.int .i64 (bcnt (cs.take (k + 1))))),(14,.i (.sl (cs.map encK))),(15,.i (.int .i64 cs.length)),(16,.i (.int .i64 ((k + 1:Nat):Int)))],[]⟩) hx3 hff (by kernel_rfl) ?_ fun e s a' w' hq hf'=>?_
    ·simp (maxSteps:=999999) (disch:=first|exact {}|omega|simp) [zS]
     exact ⟨by simp (maxSteps:=999999) (disch:=first|exact {}|omega|simp) [zS],by simp (maxSteps:=999999) (disch:=first|exact {}|omega|simp) [zS],by simp (maxSteps:=999999) (disch:=first|exact {}|omega|simp) [zS]⟩
    cases e with
    | normal =>
     have hnb:(fun v=>if v = cc.b then (if cc.b = cc.a then nbI (cs.take k) cc.a ++ [cc.b] else nbI (cs.take k) cc.b) ++ [cc.a] else if v = cc.a then nbI (cs.take k) cc.a ++ [cc.b] else nbI (cs.take k) v) = nbI (cs.take (k + 1)):=by
      funext v
      rw [hsn]
      unfold oneI
      rw [if_pos hk1]
      by_cases v1:v = cc.b
      ·subst v1
       have n1:¬ cc.b = cc.a:=by omega
       have n2:¬ cc.a = cc.b:=by omega
       simp [n1,n2]
      ·have v1':¬ cc.b = v:=fun e=>v1 e.symm
       by_cases v2:v = cc.a
       ·subst v2; simp [v1]
       ·have v2':¬ cc.a = v:=fun e=>v2 e.symm
        simp [v1,v2,v1',v2']
     have hG4:GrpE z3.w 2 base b es3 clock3 (nbI (cs.take (k + 1))):=by rw [← hnb]; exact hG3
     exact ⟨⟨k + 1,by omega⟩,by show cs.length - (k + 1) < cs.length - k; omega,z3,F3,b,base,es3,clock3,hx3,hb3,hf'.le hq,hG4,hO3,hbs3⟩
    | _=>exact hq.elim
   | _=>exact hq.elim
  ·refine wp_cond_false (by rw [fits_bool hf rfl,decide_eq_false hk1]) ?_
   refine wp_skip ?_
   show Code.wp _ _ _ _ _
   refine pieceN hE (normQ ⟨[(4,.i (.raw (.map (some b)))),(5,.i (.int .i64 (bcnt (cs.take (k + 1))))),(14,.i (.sl (cs.map encK))),(15,.i (.int .i64 cs.length)),(16,.i (.int .i64 ((k + 1:Nat):Int)))],[]⟩) hI.ctx hf (by kernel_rfl) ?_ fun e s a' w' hq hf'=>?_
   ·simp (maxSteps:=999999) (disch:=first|exact {}|omega|simp) [zS]
    exact ⟨by simp (maxSteps:=999999) (disch:=first|exact {}|omega|simp) [zS,hbc,hk1],by simp (maxSteps:=999999) (disch:=first|exact {}|omega|simp) [zS],by simp (maxSteps:=999999) (disch:=first|exact {}|omega|simp) [zS]⟩
   cases e with
   | normal =>
    have hG4:GrpE z1.w 2 base b es clock (nbI (cs.take (k + 1))):=by
     have:nbI (cs.take (k + 1)) = nbI (cs.take k):=by
      funext v; rw [hsn]; unfold oneI; rw [if_neg hk1,List.append_nil]
     rw [this]; exact hI.grp
    exact ⟨⟨k + 1,by omega⟩,by show cs.length - (k + 1) < cs.length - k; omega,z1,F1,b,base,es,clock,hI.ctx,hI.back,hf'.le hq,hG4,hI.out,hI.bs⟩
   | _=>exact hq.elim
 ·obtain rfl:k = cs.length:=by omega
  rw [List.take_length] at hbl
  have hI':=hI
  refine pieceN hE (fun e s=>e = .exit 0 ∧ Le s ⟨[(4,.i (.raw (.map (some b)))),(5,.i (.int .i64 (bcnt cs)))],[]⟩) hI.ctx hI.fits (by kernel_rfl) ?_ fun e s a' w' hq hf'=>?_
  ·simp (maxSteps:=999999) (disch:=first|exact {}|omega|simp) [zS]
   exact ⟨by simp (maxSteps:=999999) (disch:=first|exact {}|omega|simp) [zS],by simp (maxSteps:=999999) (disch:=first|exact {}|omega|simp) [zS],by simp (maxSteps:=999999) (disch:=first|exact {}|omega|simp) [zS]⟩
  obtain ⟨rfl,hle⟩:=hq
  have hff:=hf'.le hle
  have hGr:=hI.grp
  rw [List.take_length] at hGr
  obtain ⟨z2,F2,hx2,hb2,hf2⟩:=freeze_map hI.ctx hI.back hff hGr hI.out (tm:=4) rfl
  show Code.wp _ _ _ _ _
  refine segEnd hE hx2 hb2 hf2 (by kernel_rfl) ?_
  clear hf2 hb2 hx2 hGr hff hle hf' hI' hI
  have hN0:nbI cs 0 = (nbL cs 0).map fun x:Nat=>(x:Int):=nbI_nat 0 hcin
  have hl0:(nbI cs 0).length = (nbL cs 0).length:=by rw [hN0]; simp
  by_cases h2:(nbL cs 0).length = 2
  rotate_left
  ·have hno:brdM cs = 0:=brdM_no fun ⟨m,hm⟩=>h2 (hm.d 0 hm.m0).1
   have e1:rndI cs = []:=by unfold rndI; rw [hno]; rfl
   have e2:okR cs = false:=by unfold okR; rw [hno]; rfl
   have h2':¬ ((nbL cs 0).length:Int) = 2:=by omega
   simp (maxSteps:=999999) (disch:=first|exact {}|omega|simp) [zS,hl0,h2,h2',e1,e2]
  obtain ⟨x,y,hxy⟩:=Wk.two h2
  have hv0:nbI cs 0 = [(x:Int),(y:Int)]:=by rw [hN0,hxy]; rfl
  have hw1:Wk.w (nbL cs) 1 = x:=by show (nbL cs 0).getD 0 0 = x; rw [hxy]; rfl
  have hw0:Wk.w (nbL cs) 0 = 0:=rfl
  have G:=nb_gr hnm
  have hn:0 < ps.length:=by
   have:=G.bd x 0 (by rw [hxy]; simp)
   omega
  have D1:Wk.D (nbL cs) 1:=fun j hj=>by
   obtain rfl:j = 0:=by omega
   exact ⟨h2,fun h=>absurd h (by omega)⟩
  have hbl2:=bcnt_le cs
  generalize hM:(fun k=>IV.sl ((nbI cs k).map fun x=>[IV.int .i64 x])) = M
  have hM0:M 0 = .sl [[.int .i64 x],[.int .i64 y]]:=by rw [← hM]; simp [hv0]
  simp (maxSteps:=999999) (disch:=first|exact {}|omega|simp) [zS,hM0]
  refine XL.by hE (ι:={ m:Nat // 0 < m ∧ Wk.D (nbL cs) m }) (fun p=>⟨[(4,.i (.mp M)),(5,.i (.int .i64 (bcnt cs))),(8,.own 52 0 p.1),(9,.i (.int .i64 (Wk.w (nbL cs) (p.1 - 1)))),(10,.i (.int .i64 (Wk.w (nbL cs) p.1)))],[(52,⟨1,(rngI cs p.1).map encI⟩)]⟩)
   (fun p=>bcnt cs - p.1) ⟨1,Nat.one_pos,D1⟩ ⟨by simp [hw1,hw0],by simp [rngI,hw0,encI],by simp⟩ (by kernel_rfl) ?_
  rintro ⟨m,hm0,hD⟩
  have hmb:=bck_le hnm hn hD
  have hwm:=Wk.w_bd G hn hD m (Nat.le_refl _)
  have hwp:=Wk.w_bd G hn hD (m - 1) (by omega)
  have hrl:=rngI_len cs m
  have hrt:List.take m ((rngI cs m).map encI) = (rngI cs m).map encI:=List.take_of_length_le (by simp [hrl])
  by_cases hz:Wk.w (nbL cs) m = 0
  ·have hB:Bck cs m:=⟨hm0,hD,hz⟩
   have h3:=bck_three hnm hB
   have e1:rndI cs = rngI cs m:=by unfold rndI; rw [brdM_of hB]
   have e2:okR cs = (decide ((m:Int) = bcnt cs) && decide (3 ≤ (bcnt cs:Int))):=by
    unfold okR; rw [brdM_of hB]
    by_cases q:m = bcnt cs
    ·have q2:(m:Int) = bcnt cs:=by omega
     have q3:3 ≤ (bcnt cs:Int):=by omega
     rw [decide_eq_true q,decide_eq_true q2,decide_eq_true q3,decide_eq_true hm0]
    ·have q2:¬ (m:Int) = bcnt cs:=by omega
     rw [decide_eq_false q,decide_eq_false q2]; simp
   rw [e1,e2]
   by_cases q:m = bcnt cs
   ·generalize bcnt cs = B at *
    subst q
    simp (maxSteps:=999999) (disch:=first|exact {}|omega|simp) [zS,hz,hrt,hrl]
   ·simp (maxSteps:=999999) (disch:=first|exact {}|omega|simp) [zS,hz,hrt,hrl,q]
  ·have hNm:nbI cs (Wk.w (nbL cs) m:Int) = (nbL cs (Wk.w (nbL cs) m)).map fun x:Nat=>(x:Int):=nbI_nat _ hcin
   have hz':¬ (Wk.w (nbL cs) m:Int) = 0:=by omega
   by_cases hd:(nbL cs (Wk.w (nbL cs) m)).length = 2
   rotate_left
   ·have hno:brdM cs = 0:=brdM_no fun ⟨j,hj⟩=>by
     rcases Nat.lt_or_ge m j with hlt | hge
     ·exact hd (hj.d m hlt).1
     ·rcases Nat.lt_or_ge j m with h' | h'
      ·exact (hD j h').2 hj.m0 hj.z
      ·obtain rfl:j = m:=by omega
       exact hz hj.z
    have e1:rndI cs = []:=by unfold rndI; rw [hno]; rfl
    have e2:okR cs = false:=by unfold okR; rw [hno]; rfl
    have hd':¬ ((nbL cs (Wk.w (nbL cs) m)).length:Int) = 2:=by omega
    have hMm:M (Wk.w (nbL cs) m:Int) = .sl ((nbL cs (Wk.w (nbL cs) m)).map fun x:Nat=>[IV.int .i64 (x:Int)]):=by rw [← hM]; simp only [hNm,List.map_map]; rfl
    simp (maxSteps:=999999) (disch:=first|exact {}|omega|simp) [zS,hz,hz',hMm,hd,hd',e1,e2]
   obtain ⟨x',y',hxy'⟩:=Wk.two hd
   have hMm:M (Wk.w (nbL cs) m:Int) = .sl [[.int .i64 x'],[.int .i64 y']]:=by rw [← hM]; simp only [hNm,hxy']; rfl
   have D2:Wk.D (nbL cs) (m + 1):=fun j hj=>by
    by_cases e:j = m
    ·subst e; exact ⟨hd,fun _=>hz⟩
    ·exact hD j (by omega)
   have hmb2:=bck_le hnm hn D2
   have hgt:¬ ((bcnt cs:Int) < m):=by omega
   have hsn2:=rngI_snoc cs m
   have hst:Wk.w (nbL cs) (m + 1) = if x' = Wk.w (nbL cs) (m - 1) then y' else x':=by
    have:=Wk.w_step (nbL cs) (m - 1)
    rw [show m - 1 + 2 = m + 1 by omega,show m - 1 + 1 = m by omega] at this
    rw [this,Wk.step,hxy']; rfl
   have hwp2:m + 1 - 1 = m:=by omega
   by_cases hq:x' = Wk.w (nbL cs) (m - 1)
   ·rw [if_pos hq] at hst
    have hq':(x':Int) = Wk.w (nbL cs) (m - 1):=by omega
    simp (maxSteps:=999999) (disch:=first|exact {}|omega|simp) [zS,hz,hz',hMm,hgt,hrl,hq,hq',hrt]
    (refine ⟨⟨m + 1,by omega,D2⟩,by (simp; try omega), ?_⟩; constructor <;> (simp (maxSteps:=999999) (disch:=first|exact {}|omega|simp) [zS,hsn2,hst,hwp2,encI,hrt,hrl]) <;> (try omega))
   ·rw [if_neg hq] at hst
    have hq':¬ (x':Int) = Wk.w (nbL cs) (m - 1):=by omega
    simp (maxSteps:=999999) (disch:=first|exact {}|omega|simp) [zS,hz,hz',hMm,hgt,hrl,hq,hq',hrt]
    (refine ⟨⟨m + 1,by omega,D2⟩,by (simp; try omega), ?_⟩; constructor <;> (simp (maxSteps:=999999) (disch:=first|exact {}|omega|simp) [zS,hsn2,hst,hwp2,encI,hrt,hrl]) <;> (try omega))
end Go.Vai
namespace Go.Vai
theorem crs_nms (ps:List Pt) (cs:List Cr):crsOk ps cs = (nmsOk ps cs && dirsOk ps cs):=by
 rw [Bool.eq_iff_iff,Bool.and_eq_true]
 unfold crsOk nmsOk dirsOk
 simp only [List.all_eq_true,List.mem_range,decide_eq_true_eq]
 constructor
 ·intro h
  refine ⟨fun i hi=>?_,fun c hc=>?_⟩
  ·have:=h i hi
   simp only [crAt,crNum,Bool.and_eq_true] at this ⊢
   exact ⟨this.1,this.2.2⟩
  ·obtain ⟨i,hi,rfl⟩:=List.getElem_of_mem hc
   have:=h i hi
   simp only [crAt,Bool.and_eq_true,decide_eq_true_eq] at this
   rw [← (getK_get hi).2]; exact this.2.1
 ·rintro ⟨h1,h2⟩ i hi
  have q1:=h1 i hi
  have q2:=h2 _ (getK_mem hi)
  simp only [crAt,crNum,Bool.and_eq_true,decide_eq_true_eq] at q1 ⊢
  exact ⟨q1.1,q2,q1.2⟩
theorem ptsOk_vp {ps:List Pt} (h:ptsOk ps = true):∀ p ∈ ps,vP p = true:=by
 intro p hp
 obtain ⟨i,hi,rfl⟩:=List.getElem_of_mem hp
 unfold ptsOk at h
 rw [List.all_eq_true] at h
 have:=h i (List.mem_range.2 hi)
 simp only [okAt,Bool.and_eq_true] at this
 rw [nth_eq hi] at this
 exact this.1
theorem rot0_len' {l:List Pt} (h:l ≠ []):(rot0 l).length = l.length:=by
 have:least l < l.length:=leastF_lt (Nat.le_refl _) (List.length_pos_iff.2 h)
 simp [rot0]; omega
theorem polI_len {l:List Pt} (h:polI l = true):3 ≤ l.length ∧ l.length ≤ 16:=⟨(polI_poly h).2.1,(polI_poly h).2.2.1⟩
theorem nrm_eq {l:List Pt} (hv:∀ p ∈ l,vP p = true):nrmO l = if polI (rot0 l) = true then some (rot0 l) else if polI (rot0 l.reverse) = true then some (rot0 l.reverse) else none:=by
 unfold nrmO
 have hall:l.all vP = true:=List.all_eq_true.2 hv
 by_cases h16:l.length ≤ 16
 ·rw [if_pos ⟨hall,h16⟩]
 ·rw [if_neg fun e=>h16 e.2]
  have hne:l ≠ []:=by rintro rfl; simp at h16
  have h1:¬ polI (rot0 l) = true:=fun h=>by have:=polI_len h; rw [rot0_len' hne] at this; omega
  have h2:¬ polI (rot0 l.reverse) = true:=fun h=>by
   have:=polI_len h
   rw [rot0_len' (by simpa using hne)] at this
   simp at this; omega
  rw [if_neg h1,if_neg h2]
theorem bend_mem (l:List Pt):∀ k,k ≤ l.length → ∀ p ∈ bendN l k,p ∈ l
 | 0,_,p,h=>by simp [bendN] at h
 | k + 1,hk,p,h=>by
  simp only [bendN] at h
  rcases List.mem_append.1 h with h | h
  ·exact bend_mem l k (by omega) p h
  ·split at h
   ·obtain rfl:=List.mem_singleton.1 h; exact nth_mem (by omega)
   ·simp at h
noncomputable def rptC (ps:List Pt) (cs:List Cr):List Pt:=(rndI cs).map (pI ps)
noncomputable def corC (ps:List Pt) (cs:List Cr):List Pt:=bendN (rptC ps cs) (rptC ps cs).length
noncomputable def papO (ps:List Pt) (cs:List Cr):Option (List Pt):=if okR cs = true then nrmO (corC ps cs) else none
theorem rnd_in {ps:List Pt} {cs:List Cr} (hnm:nmsOk ps cs = true) (ho:okR cs = true):(∀ i ∈ rndI cs,0 ≤ i ∧ i < ps.length) ∧ (rndI cs).length ≤ cs.length ∧ 0 < (rndI cs).length:=by
 have hx:∃ m,Bck cs m:=Classical.byContradiction fun hno=>by
  unfold okR at ho
  rw [brdM_no hno] at ho
  simp at ho
 obtain ⟨m,hm⟩:=hx
 have hn:0 < ps.length:=by
  have h0:=(hm.d 0 hm.m0).1
  obtain ⟨x,y,e⟩:=Wk.two h0
  have:=(nb_gr hnm).bd x 0 (by show x ∈ nbL cs (Wk.w (nbL cs) 0); rw [e]; simp)
  omega
 have hb:=bck_le hnm hn hm.d
 have hbl:=bcnt_le cs
 unfold rndI
 rw [brdM_of hm]
 refine ⟨fun i hi=>?_,by rw [rngI_len]; omega,by rw [rngI_len]; exact hm.m0⟩
 unfold rngI at hi
 obtain ⟨k,hk,rfl⟩:=List.mem_map.1 hi
 have hk':=List.mem_range.1 hk
 have:=Wk.w_bd (nb_gr hnm) hn hm.d k (by omega)
 omega
theorem rpt_mem {ps:List Pt} {cs:List Cr} (hnm:nmsOk ps cs = true) (ho:okR cs = true):∀ p ∈ rptC ps cs,p ∈ ps:=by
 intro p hp
 obtain ⟨i,hi,rfl⟩:=List.mem_map.1 hp
 have:=(rnd_in hnm ho).1 i hi
 exact nth_mem (by omega)
theorem cor_mem {ps:List Pt} {cs:List Cr} (hnm:nmsOk ps cs = true) (ho:okR cs = true):∀ p ∈ corC ps cs,p ∈ ps:=fun p hp=>rpt_mem hnm ho p (bend_mem _ _ (Nat.le_refl _) p hp)
theorem nrm_pol {l m:List Pt} (h:nrmO l = some m):polI m = true:=by
 unfold nrmO at h
 split at h <;> (try (simp at h; done))
 split at h
 ·rename_i hp; obtain rfl:=Option.some.inj h; exact hp
 ·split at h
  ·rename_i hp; obtain rfl:=Option.some.inj h; exact hp
  ·simp at h
noncomputable def vB (ps:List Pt) (cs:List Cr):Bool:=lstB ps cs && (dirsOk ps cs && (planB ps cs && (conB ps.length cs && ((papO ps cs).isSome && insAll ps ((papO ps cs).getD []) cs))))
theorem lst_split {ps:List Pt} {cs:List Cr}:(lstB ps cs && dirsOk ps cs) = (arP ps && arC ps cs):=by
 unfold lstB arP arC
 rw [crs_nms,Bool.eq_iff_iff]
 simp only [Bool.and_eq_true]
 constructor <;> rintro ⟨h1,h2⟩ <;> simp_all
theorem c104 (ps:List Pt) (cs:List Cr) (hnm:nmsOk ps cs = true) (hv:∀ p ∈ ps,vP p = true) (h:(ps.length:Int) ≤ 1048576) (hc:(cs.length:Int) ≤ 1048576) :
  PC E 104 [.agg (encPa ps cs)] [.own 6 (encPs ((papO ps cs).getD [])),.i (.bool (papO ps cs).isSome)]:=by
 refine zP hE Proofs.Tryz.func104 Proofs.Tryz.ntmps104 rfl rfl ?_
 simp (maxSteps:=999999) (disch:=first|exact {}|omega|simp) [zS,encPa]
 have hb:=c189 ps cs hnm (by omega) (by omega)
 unfold encPa at hb
 refine zC (hb) ?_
 simp (maxSteps:=999999) (disch:=first|exact {}|omega|simp) [zS]
 by_cases ho:okR cs = true
 ·obtain ⟨r1,r2,r3⟩:=rnd_in hnm ho
  have hp:papO ps cs = nrmO (corC ps cs):=by unfold papO; rw [if_pos ho]
  have hpo:=c192 ps cs (rndI cs) r1 (by omega)
  have hl1:(rptC ps cs).length = (rndI cs).length:=by simp [rptC]
  have hbl:=bendN_len (rptC ps cs) (rptC ps cs).length
  have hcl:(corC ps cs).length ≤ (rptC ps cs).length:=hbl
  have hst:=c191 (rptC ps cs) (fun p hp=>vP_bound (hv p (rpt_mem hnm ho p hp))) (by omega)
  have hnp:=c190 (corC ps cs) (by omega)
  unfold encPa at hpo
  rw [hp]
  have tX:List.take (rndI cs).length ((rndI cs).map encI) = (rndI cs).map encI:=List.take_of_length_le (by simp)
  have tY:List.take (rptC ps cs).length (encPs (rptC ps cs)) = encPs (rptC ps cs):=List.take_of_length_le (by simp)
  have tY':List.take (rndI cs).length (encPs (rptC ps cs)) = encPs (rptC ps cs):=List.take_of_length_le (by simp [hl1])
  have tZ:List.take (corC ps cs).length (encPs (corC ps cs)) = encPs (corC ps cs):=List.take_of_length_le (by simp)
  simp (maxSteps:=999999) (disch:=first|exact {}|omega|simp) [zS,ho,tX]
  refine zC (hpo) ?_
  have e1:(rndI cs).map (pI ps) = rptC ps cs:=rfl
  simp (maxSteps:=999999) (disch:=first|exact {}|omega|simp) [zS,e1,hl1,tY,tY']
  refine zC (hst) ?_
  have e2:bendN (rptC ps cs) (rptC ps cs).length = corC ps cs:=rfl
  simp (maxSteps:=999999) (disch:=first|exact {}|omega|simp) [zS,e2,tZ]
  refine zC (hnp) ?_
  simp (maxSteps:=999999) (disch:=first|exact {}|omega|simp) [zS]
  exact (List.take_of_length_le (by simp)).symm
 ·have hp:papO ps cs = none:=by unfold papO; rw [if_neg ho]
  simp (maxSteps:=999999) (disch:=first|exact {}|omega|simp) [zS,ho,hp,encPs]
theorem c49 (ps:List Pt) (cs:List Cr) (h:(ps.length:Int) ≤ 1048576) (hc:(cs.length:Int) ≤ 1048576):PC E 49 [.agg (encPa ps cs)] [.i (.bool (vB ps cs))]:=by
 have hsp:=lst_split (ps:=ps) (cs:=cs)
 have hvB:vB ps cs = ((lstB ps cs && dirsOk ps cs) && (planB ps cs && (conB ps.length cs && ((papO ps cs).isSome && insAll ps ((papO ps cs).getD []) cs)))):=by unfold vB; rw [Bool.and_assoc]
 rw [hsp] at hvB
 have k1:=c101 ps cs (by omega)
 have k2:=fun hv=>c102 ps cs hv (by omega) (by omega)
 have k3:=fun hv hcin=>c103 ps cs hv hcin (by omega)
 have k4:=fun hcin=>c92 ps cs hcin (by omega) (by omega)
 have k5:=fun hnm hv=>c104 ps cs hnm hv h hc
 refine zP hE Proofs.Tryz.func49 Proofs.Tryz.ntmps49 rfl rfl ?_
 have hen:encPa ps cs = [.sl (encPs ps),.sl (cs.map encK)]:=rfl
 simp (maxSteps:=999999) (disch:=first|exact {}|omega|simp) [zS,hen]
 refine zC (k1) ?_
 simp (maxSteps:=999999) (disch:=first|exact {}|omega|simp) [zS]
 by_cases h1:arP ps = true
 rotate_left
 ·have e:arP ps = false:=by simpa using h1
  have:vB ps cs = false:=by rw [hvB,e]; rfl
  simp (maxSteps:=999999) (disch:=first|exact {}|omega|simp) [zS,e,this]
 have hpts:ptsOk ps = true:=by unfold arP at h1; rw [Bool.and_eq_true] at h1; exact h1.1
 have hvp:=ptsOk_vp hpts
 have hpv:∀ p ∈ ps,PV p:=fun p hp=>vP_bound (hvp p hp)
 simp (maxSteps:=999999) (disch:=first|exact {}|omega|simp) [zS,h1,hen]
 refine zC (k2 hpv) ?_
 simp (maxSteps:=999999) (disch:=first|exact {}|omega|simp) [zS]
 by_cases h2:arC ps cs = true
 rotate_left
 ·have e:arC ps cs = false:=by simpa using h2
  have:vB ps cs = false:=by rw [hvB,e]; simp
  simp (maxSteps:=999999) (disch:=first|exact {}|omega|simp) [zS,e,this]
 have hnm:nmsOk ps cs = true:=by
  unfold arC at h2
  rw [Bool.and_eq_true,crs_nms,Bool.and_eq_true] at h2
  exact h2.1.1
 have hcin:=nmsOk_cin hnm
 simp (maxSteps:=999999) (disch:=first|exact {}|omega|simp) [zS,h2,hen]
 refine zC (k3 hpv hcin) ?_
 simp (maxSteps:=999999) (disch:=first|exact {}|omega|simp) [zS]
 by_cases h3:planB ps cs = true
 rotate_left
 ·have e:planB ps cs = false:=by simpa using h3
  have:vB ps cs = false:=by rw [hvB,e]; simp
  simp (maxSteps:=999999) (disch:=first|exact {}|omega|simp) [zS,e,this]
 simp (maxSteps:=999999) (disch:=first|exact {}|omega|simp) [zS,h3,hen]
 refine zC (k4 hcin) ?_
 simp (maxSteps:=999999) (disch:=first|exact {}|omega|simp) [zS]
 by_cases h4:conB ps.length cs = true
 rotate_left
 ·have e:conB ps.length cs = false:=by simpa using h4
  have:vB ps cs = false:=by rw [hvB,e]; simp
  simp (maxSteps:=999999) (disch:=first|exact {}|omega|simp) [zS,e,this]
 simp (maxSteps:=999999) (disch:=first|exact {}|omega|simp) [zS,h4,hen]
 refine zC (k5 hnm hvp) ?_
 have hvB2:vB ps cs = ((papO ps cs).isSome && insAll ps ((papO ps cs).getD []) cs):=by rw [hvB,h1,h2,h3,h4]; rfl
 clear k1 k2 k3 k4 k5 hsp hvB
 cases hpa:papO ps cs with
 | none =>
  rw [hpa] at hvB2
  simp (maxSteps:=999999) (disch:=first|exact {}|omega|simp) [zS,hvB2,encPs]
 | some paper =>
  rw [hpa] at hvB2
  simp only [Option.isSome_some,Option.getD_some,Bool.true_and] at hvB2
  have hpo:polI paper = true:=by
   unfold papO at hpa
   split at hpa
   ·exact nrm_pol hpa
   ·simp at hpa
  obtain ⟨hPo,hn3,hn16,hpav⟩:=polI_poly hpo
  have hvpa:∀ p ∈ paper,PV p:=fun p hp=>vP_bound (hpav p hp)
  have tX:List.take paper.length (encPs paper) = encPs paper:=List.take_of_length_le (by simp)
  simp (maxSteps:=999999) (disch:=first|exact {}|omega|simp) [zS,hen]
  refine XL.by hE (ι:={ k:Nat // k ≤ cs.length ∧ ∀ j,j < k → inC ps paper (getK cs j) = true }) (fun k=>⟨[(1,.ptr 1 0 0),(3,.i (.sl (encPs paper))),(35,.i (.sl (cs.map encK))),(36,.i (.int .i64 cs.length)),(37,.i (.int .i64 k.1))],[(1,⟨2,[encPa ps cs]⟩)]⟩)
   (fun k=>cs.length - k.1) ⟨0,Nat.zero_le _,fun j hj=>absurd hj (Nat.not_lt_zero _)⟩ ⟨by simp [tX],by simp [hen],by simp⟩ (by kernel_rfl) ?_
  rintro ⟨k,hk,hin⟩
  by_cases hlt:k < cs.length
  ·obtain ⟨hg,he⟩:=getK_get hlt
   have hci:=hcin _ (getK_mem hlt)
   have hno:=insAll_no (ps:=ps) (paper:=paper) hlt
   have hyes:inC ps paper (getK cs k) = true → ∀ j,j < k + 1 → inC ps paper (getK cs j) = true:=fun hh j hj=>by
    by_cases e:j = k
    ·subst e; exact hh
    ·exact hin j (by omega)
   clear he
   generalize getK cs k = c at *
   obtain ⟨a0,ab,bn⟩:=hci
   have hva:vP (pI ps c.a) = true:=hvp _ (nth_mem (by omega))
   have hvb:vP (pI ps c.b) = true:=hvp _ (nth_mem (by omega))
   have f1:=c105 ps cs c (by omega) (by omega)
   have f2:=c106 ps cs c (by omega) (by omega)
   rw [show nth ps c.a.toNat = pI ps c.a from rfl] at f1
   rw [show nth ps c.b.toNat = pI ps c.b from rfl] at f2
   have i1:=c107 paper (pI ps c.a) hvpa (vP_bound hva) (by omega)
   have i2:=c107 paper (pI ps c.b) hvpa (vP_bound hvb) (by omega)
   have i3:=c108 paper (pI ps c.a) (pI ps c.b) (crs_of hpo hva hvb)
   have hdef:inC ps paper c = (decide (c.k = 1) || (decide (0 ≤ insP paper (pI ps c.a)) && (decide (0 ≤ insP paper (pI ps c.b)) && crossB paper (pI ps c.a) (pI ps c.b)))):=rfl
   have hel:(encK c).length = 3:=rfl
   generalize pI ps c.a = pa at *
   generalize pI ps c.b = pb at *
   generalize insP paper pa = ia at *
   generalize insP paper pb = ib at *
   generalize crossB paper pa pb = cb at *
   have l6:∀ p:Pt,(encP p).length = 6:=fun _=>rfl
   by_cases hk1:c.k = 1
   ·have:inC ps paper c = true:=by rw [hdef,decide_eq_true hk1]; rfl
    simp (maxSteps:=999999) (disch:=first|exact {}|omega|simp) [zS,hlt,hg,encK,hk1]
    (refine ⟨⟨k + 1,by omega,hyes this⟩,by (simp; try omega), ?_⟩; constructor <;> (simp (maxSteps:=999999) (disch:=first|exact {}|omega|simp) [zS,hen]) <;> (try omega))
   ·have hek:encK c = [.int .i64 c.a,.int .i64 c.b,.int .i64 c.k]:=rfl
    simp (maxSteps:=999999) (disch:=first|exact {}|omega|simp) [zS,hlt,hg,hek,hk1,hen]
    refine zC (f1) ?_
    simp (maxSteps:=999999) (disch:=first|exact {}|omega|simp) [zS,hek,hen]
    refine zC (f2) ?_
    simp (maxSteps:=999999) (disch:=first|exact {}|omega|simp) [zS,encP,encN]
    refine zC (i1) ?_
    simp (maxSteps:=999999) (disch:=first|exact {}|omega|simp) [zS]
    by_cases h1:ia < 0
    ·have:inC ps paper c = false:=by rw [hdef,decide_eq_false hk1,decide_eq_false (show ¬ 0 ≤ ia by omega)]; rfl
     simp (maxSteps:=999999) (disch:=first|exact {}|omega|simp) [zS,h1,hvB2,hno this]
    ·simp (maxSteps:=999999) (disch:=first|exact {}|omega|simp) [zS,h1,encP,encN]
     refine zC (i2) ?_
     simp (maxSteps:=999999) (disch:=first|exact {}|omega|simp) [zS]
     by_cases h2:ib < 0
     ·have:inC ps paper c = false:=by rw [hdef,decide_eq_false hk1,decide_eq_false (show ¬ 0 ≤ ib by omega)]; simp
      simp (maxSteps:=999999) (disch:=first|exact {}|omega|simp) [zS,h2,hvB2,hno this]
     ·simp (maxSteps:=999999) (disch:=first|exact {}|omega|simp) [zS,h2,encP,encN]
      refine zC (i3) ?_
      simp (maxSteps:=999999) (disch:=first|exact {}|omega|simp) [zS]
      cases cb
      ·have:inC ps paper c = false:=by rw [hdef,decide_eq_false hk1]; simp
       simp (maxSteps:=999999) (disch:=first|exact {}|omega|simp) [zS,hvB2,hno this]
      ·have:inC ps paper c = true:=by rw [hdef,decide_eq_true (show 0 ≤ ia by omega),decide_eq_true (show 0 ≤ ib by omega)]; simp
       simp (maxSteps:=999999) (disch:=first|exact {}|omega|simp) [zS]
       (refine ⟨⟨k + 1,by omega,hyes this⟩,by (simp; try omega), ?_⟩; constructor <;> (simp (maxSteps:=999999) (disch:=first|exact {}|omega|simp) [zS,hen]) <;> (try omega))
  ·obtain rfl:k = cs.length:=by omega
   simp (maxSteps:=999999) (disch:=first|exact {}|omega|simp) [zS,hvB2,insAll_yes hin]
end Go.Vai
namespace Go.Vai
@[simp] theorem flat_encI' (x:Int):flatC (encI x) = True:=by simp [flatC,encI,IV.flat]
def backL (l:List Int):List Int:=l.take 1 ++ (l.drop 1).reverse
theorem backL_at (x:Int) (l:List Int):backL (x :: l) = x :: l.reverse:=rfl
theorem c183 (l:List Int) (h0:0 < l.length) (h:(l.length:Int) ≤ 1048576):PC E 183 [.i (.sl (l.map encI))] [.own 1 ((backL l).map encI)]:=by
 obtain ⟨x,t,rfl⟩:∃ x t,l = x :: t:=by
  cases l with
  | nil=>simp at h0
  | cons x t=>exact ⟨x,t,rfl⟩
 rw [backL_at]
 have hl:(x :: t).length = t.length + 1:=rfl
 rw [hl] at h
 have hm:(x :: t).map encI = [.int .i64 x] :: t.map encI:=rfl
 have hlm:([IV.int .i64 x] :: t.map encI).length = t.length + 1:=by simp
 refine zP hE Proofs.Tryz.func183 Proofs.Tryz.ntmps183 rfl rfl ?_
 rw [hm]
 simp (maxSteps:=999999) (disch:=first|exact {}|omega|simp) [zS]
 refine XL.by hE (ι:={ k:Nat // k ≤ t.length }) (fun k=>⟨[(0,.i (.sl ([.int .i64 x] :: t.map encI))),(3,.own 8 0 (k.1 + 1)),(4,.i (.int .i64 ((t.length:Int) - k.1)))],[(8,⟨1,(x :: t.reverse.take k.1).map encI⟩)]⟩)
  (fun k=>t.length - k.1) ⟨0,Nat.zero_le _⟩ ⟨by simp,by simp [encI],by simp⟩ (by kernel_rfl) ?_
 rintro ⟨k,hk⟩
 have hkl:((x :: t.reverse.take k).map encI).length = k + 1:=by simp; omega
 have tX:List.take (k + 1) ((x :: t.reverse.take k).map encI) = (x :: t.reverse.take k).map encI:=List.take_of_length_le (by omega)
 by_cases hlt:k < t.length
 ·have ej:((t.length:Int) - k).toNat = t.length - k:=by omega
  have ej0:¬ ((t.length:Int) - k < 0):=by omega
  have ej1:0 < (t.length:Int) - k:=by omega
  have hj:t.length - k < t.length + 1:=by omega
  have hg:([IV.int .i64 x] :: t.map encI)[t.length - k]? = some [.int .i64 (t[t.length - 1 - k])]:=by
   rw [show t.length - k = (t.length - 1 - k) + 1 by omega,List.getElem?_cons_succ,List.getElem?_map,List.getElem?_eq_getElem (by omega)]; rfl
  have hst:(x :: t.reverse.take (k + 1)).map encI = (x :: t.reverse.take k).map encI ++ [[.int .i64 (t[t.length - 1 - k])]]:=by
   rw [List.take_add_one,List.getElem?_reverse hlt,List.getElem?_eq_getElem (by omega)]; simp [encI]
  obtain ⟨hg1,hg2⟩:=List.getElem?_eq_some_iff.1 hg
  generalize t[t.length - 1 - k] = z at *
  generalize (x :: t.reverse.take k).map encI = A at *
  generalize [IV.int .i64 x] :: t.map encI = B at *
  have hst2:encI x :: List.take (k + 1) (List.map encI t).reverse = A ++ [[.int .i64 z]]:=by rw [← hst]; simp
  simp (maxSteps:=999999) (disch:=first|exact {}|omega|simp) [zS,ej,ej0,ej1,hj,hg,hg1,hg2,hlm,hkl,tX]
  (refine ⟨⟨k + 1,by omega⟩,by (simp; try omega), ?_⟩; constructor <;> (simp (maxSteps:=999999) (disch:=first|exact {}|omega|simp) [zS,hst,hst2,tX,hkl]) <;> (try omega))
 ·obtain rfl:k = t.length:=by omega
  have hr:t.reverse.take t.length = t.reverse:=List.take_of_length_le (by simp)
  rw [hr] at tX
  have e0:¬ (0 < (t.length:Int) - t.length):=by omega
  simp (maxSteps:=999999) (disch:=first|exact {}|omega|simp) [zS,e0,hr,tX]
  exact (List.take_of_length_le (by simp)).symm
noncomputable def arrI (ps:List Pt) (cs:List Cr):List Int:=if polI (rot0 (corC ps cs)) = true then rndI cs else backL (rndI cs)
noncomputable def papS (ps:List Pt) (cs:List Cr):List Pt:=if vB ps cs = true then (papO ps cs).getD [] else []
noncomputable def arrS (ps:List Pt) (cs:List Cr):List Int:=if vB ps cs = true then arrI ps cs else []
theorem c96 (ps:List Pt) (cs:List Cr) (h:(ps.length:Int) ≤ 1048576) (hc:(cs.length:Int) ≤ 1048576) :
  PC E 96 [.i (.ptr (encPa ps cs))] [.own 6 (encPs (papS ps cs)),.own 1 ((arrS ps cs).map encI),.i (.bool (vB ps cs))]:=by
 have no:vB ps cs = false → papS ps cs = [] ∧ arrS ps cs = []:=fun hv=>by unfold papS arrS; rw [hv]; exact ⟨rfl,rfl⟩
 refine zP hE Proofs.Tryz.func96 Proofs.Tryz.ntmps96 rfl rfl ?_
 simp (maxSteps:=999999) (disch:=first|exact {}|omega|simp) [zS]
 refine zC (c176 ps cs (by omega) (by omega)) ?_
 simp (maxSteps:=999999) (disch:=first|exact {}|omega|simp) [zS]
 by_cases h1:lstB ps cs = true
 rotate_left
 ·have e:lstB ps cs = false:=by simpa using h1
  have hv:vB ps cs = false:=by unfold vB; rw [e]; rfl
  obtain ⟨n1,n2⟩:=no hv
  simp (maxSteps:=999999) (disch:=first|exact {}|omega|simp) [zS,e,hv,n1,n2,encPs]
 have h1':=h1
 unfold lstB at h1'
 simp only [Bool.and_eq_true,decide_eq_true_eq] at h1'
 obtain ⟨⟨h40,h70⟩,hpts,hnm⟩:=h1'
 have hvp:=ptsOk_vp hpts
 have hpv:∀ p ∈ ps,PV p:=fun p hp=>vP_bound (hvp p hp)
 have hcin:=nmsOk_cin hnm
 simp (maxSteps:=999999) (disch:=first|exact {}|omega|simp) [zS,h1]
 refine zC (c177 ps cs hpv hcin (by omega)) ?_
 simp (maxSteps:=999999) (disch:=first|exact {}|omega|simp) [zS]
 by_cases h2:dirsOk ps cs = true
 rotate_left
 ·have e:dirsOk ps cs = false:=by simpa using h2
  have hv:vB ps cs = false:=by unfold vB; rw [e]; simp
  obtain ⟨n1,n2⟩:=no hv
  simp (maxSteps:=999999) (disch:=first|exact {}|omega|simp) [zS,e,hv,n1,n2,encPs]
 have hsv:segsV ps cs = cs:=by unfold segsV; rw [if_pos h2]
 have hdir:∀ c ∈ cs,0 ≤ dirC ps c:=fun c hcm=>by
  unfold dirsOk at h2
  rw [List.all_eq_true] at h2
  simpa using h2 c hcm
 have tS:List.take cs.length (cs.map (sgC ps)) = cs.map (sgC ps):=List.take_of_length_le (by simp)
 simp (maxSteps:=999999) (disch:=first|exact {}|omega|simp) [zS,h2,hsv]
 refine zC (c178 ps cs hnm (by omega) (by omega)) ?_
 simp (maxSteps:=999999) (disch:=first|exact {}|omega|simp) [zS]
 by_cases h3:okR cs = true
 rotate_left
 ·have e:okR cs = false:=by simpa using h3
  have hv:vB ps cs = false:=by unfold vB papO; rw [e]; simp
  obtain ⟨n1,n2⟩:=no hv
  simp (maxSteps:=999999) (disch:=first|exact {}|omega|simp) [zS,e,hv,n1,n2,encPs]
 obtain ⟨r1,r2,r3⟩:=rnd_in hnm h3
 have hn:0 < ps.length:=by
  rcases Nat.eq_zero_or_pos ps.length with e | e
  ·have hmm:(rndI cs)[0]'r3 ∈ rndI cs:=List.getElem_mem r3
   have:=r1 _ hmm
   omega
  ·exact e
 have hrs:rndS ps.length cs = rndI cs:=by unfold rndS; rw [if_pos (okR_deg hnm hn h3)]
 have tR:List.take (rndI cs).length ((rndI cs).map encI) = (rndI cs).map encI:=List.take_of_length_le (by simp)
 have hpl:=c179 ps cs hpv hcin hdir (by omega)
 simp (maxSteps:=999999) (disch:=first|exact {}|omega|simp) [zS,h3,hrs,tS]
 refine zC (hpl) ?_
 simp (maxSteps:=999999) (disch:=first|exact {}|omega|simp) [zS]
 by_cases h4:planB ps cs = true
 rotate_left
 ·have e:planB ps cs = false:=by simpa using h4
  have hv:vB ps cs = false:=by unfold vB; rw [e]; simp
  obtain ⟨n1,n2⟩:=no hv
  simp (maxSteps:=999999) (disch:=first|exact {}|omega|simp) [zS,e,hv,n1,n2,encPs]
 simp (maxSteps:=999999) (disch:=first|exact {}|omega|simp) [zS,h4]
 refine zC (c88 ps cs hcin hn (by omega) (by omega)) ?_
 simp (maxSteps:=999999) (disch:=first|exact {}|omega|simp) [zS]
 by_cases h5:conB ps.length cs = true
 rotate_left
 ·have e:conB ps.length cs = false:=by simpa using h5
  have hv:vB ps cs = false:=by unfold vB; rw [e]; simp
  obtain ⟨n1,n2⟩:=no hv
  simp (maxSteps:=999999) (disch:=first|exact {}|omega|simp) [zS,e,hv,n1,n2,encPs]
 have hl1:(rptC ps cs).length = (rndI cs).length:=by simp [rptC]
 have hbl:=bendN_len (rptC ps cs) (rptC ps cs).length
 have hcl:(corC ps cs).length ≤ (rptC ps cs).length:=hbl
 have hcv:∀ p ∈ corC ps cs,vP p = true:=fun p hp=>hvp p (cor_mem hnm h3 p hp)
 have hcv2:∀ p ∈ (corC ps cs).reverse,PV p:=fun p hp=>vP_bound (hcv p (by simpa using hp))
 have hne:=nrm_eq hcv
 have hpo:papO ps cs = nrmO (corC ps cs):=by unfold papO; rw [if_pos h3]
 have hvB:vB ps cs = ((papO ps cs).isSome && insAll ps ((papO ps cs).getD []) cs):=by unfold vB; rw [h1,h2,h4,h5]; rfl
 have hco:=c180 ps cs hpv (rndI cs) r1 (by omega)
 rw [show encPs (bendN ((rndI cs).map (pI ps)) (rndI cs).length) = encPs (corC ps cs) by unfold corC; rw [hl1]; rfl] at hco
 have tC:List.take (corC ps cs).length (encPs (corC ps cs)) = encPs (corC ps cs):=List.take_of_length_le (by simp)
 have hr1:=rot0_len (corC ps cs)
 have hr2:=rot0_len (corC ps cs).reverse
 rw [List.length_reverse] at hr2
 have t1:List.take (rot0 (corC ps cs)).length (encPs (rot0 (corC ps cs))) = encPs (rot0 (corC ps cs)):=List.take_of_length_le (by simp)
 have t2:List.take (rot0 (corC ps cs).reverse).length (encPs (rot0 (corC ps cs).reverse)) = encPs (rot0 (corC ps cs).reverse):=List.take_of_length_le (by simp)
 have t3:List.take (corC ps cs).length (encPs (corC ps cs).reverse) = encPs (corC ps cs).reverse:=List.take_of_length_le (by simp)
 simp (maxSteps:=999999) (disch:=first|exact {}|omega|simp) [zS,h5,tR]
 refine zC (hco) ?_
 simp (maxSteps:=999999) (disch:=first|exact {}|omega|simp) [zS,tC]
 refine zC (c181 (corC ps cs) (fun p hp=>vP_bound (hcv p hp)) (by omega)) ?_
 simp (maxSteps:=999999) (disch:=first|exact {}|omega|simp) [zS,t1]
 refine zC (c182 (rot0 (corC ps cs)) (by omega)) ?_
 rw [← pol_eq]
 simp (maxSteps:=999999) (disch:=first|exact {}|omega|simp) [zS]
 by_cases h6:polI (rot0 (corC ps cs)) = true
 ·have hp2:papO ps cs = some (rot0 (corC ps cs)):=by rw [hpo,hne,if_pos h6]
  rw [hp2] at hvB
  simp only [Option.isSome_some,Option.getD_some,Bool.true_and] at hvB
  simp (maxSteps:=999999) (disch:=first|exact {}|omega|simp) [zS,h6,t1]
  refine zC (c182 (rot0 (corC ps cs)) (by omega)) ?_
  rw [← pol_eq]
  simp (maxSteps:=999999) (disch:=first|exact {}|omega|simp) [zS,h6,tS,t1]
  refine zC (c185 ps cs (rot0 (corC ps cs)) hvp hcin h6 (by omega)) ?_
  simp (maxSteps:=999999) (disch:=first|exact {}|omega|simp) [zS]
  by_cases h7:insAll ps (rot0 (corC ps cs)) cs = true
  ·have hv:vB ps cs = true:=by rw [hvB,h7]
   have n1:papS ps cs = rot0 (corC ps cs):=by unfold papS; rw [if_pos hv,hp2]; rfl
   have n2:arrS ps cs = rndI cs:=by unfold arrS arrI; rw [if_pos hv,if_pos h6]
   simp (maxSteps:=999999) (disch:=first|exact {}|omega|simp) [zS,h7,hv,n1,n2,t1,tR]
  ·have e:insAll ps (rot0 (corC ps cs)) cs = false:=by simpa using h7
   have hv:vB ps cs = false:=by rw [hvB,e]
   obtain ⟨n1,n2⟩:=no hv
   simp (maxSteps:=999999) (disch:=first|exact {}|omega|simp) [zS,e,hv,n1,n2,encPs]
 ·have e6:polI (rot0 (corC ps cs)) = false:=by simpa using h6
  have hbk:=c183 (rndI cs) r3 (by omega)
  have hbkl:(backL (rndI cs)).length = (rndI cs).length:=by unfold backL; simp; omega
  have tB:List.take (rndI cs).length ((backL (rndI cs)).map encI) = (backL (rndI cs)).map encI:=List.take_of_length_le (by simp [hbkl])
  simp (maxSteps:=999999) (disch:=first|exact {}|omega|simp) [zS,e6,tR]
  refine zC (hbk) ?_
  simp (maxSteps:=999999) (disch:=first|exact {}|omega|simp) [zS,tC]
  refine zC (c184 (corC ps cs) (by omega)) ?_
  simp (maxSteps:=999999) (disch:=first|exact {}|omega|simp) [zS,t3]
  refine zC (c181 (corC ps cs).reverse hcv2 (by simp; omega)) ?_
  simp (maxSteps:=999999) (disch:=first|exact {}|omega|simp) [zS,t2]
  refine zC (c182 (rot0 (corC ps cs).reverse) (by omega)) ?_
  rw [← pol_eq]
  simp (maxSteps:=999999) (disch:=first|exact {}|omega|simp) [zS]
  by_cases h8:polI (rot0 (corC ps cs).reverse) = true
  ·have hp2:papO ps cs = some (rot0 (corC ps cs).reverse):=by rw [hpo,hne,if_neg h6,if_pos h8]
   rw [hp2] at hvB
   simp only [Option.isSome_some,Option.getD_some,Bool.true_and] at hvB
   simp (maxSteps:=999999) (disch:=first|exact {}|omega|simp) [zS,h8,tS,t2]
   refine zC (c185 ps cs (rot0 (corC ps cs).reverse) hvp hcin h8 (by omega)) ?_
   simp (maxSteps:=999999) (disch:=first|exact {}|omega|simp) [zS]
   by_cases h7:insAll ps (rot0 (corC ps cs).reverse) cs = true
   ·have hv:vB ps cs = true:=by rw [hvB,h7]
    have n1:papS ps cs = rot0 (corC ps cs).reverse:=by unfold papS; rw [if_pos hv,hp2]; rfl
    have n2:arrS ps cs = backL (rndI cs):=by unfold arrS arrI; rw [if_pos hv,if_neg h6]
    simp (maxSteps:=999999) (disch:=first|exact {}|omega|simp) [zS,h7,hv,n1,n2,t2,tB,hbkl]
   ·have e:insAll ps (rot0 (corC ps cs).reverse) cs = false:=by simpa using h7
    have hv:vB ps cs = false:=by rw [hvB,e]
    obtain ⟨n1,n2⟩:=no hv
    simp (maxSteps:=999999) (disch:=first|exact {}|omega|simp) [zS,e,hv,n1,n2,encPs]
  ·have e8:polI (rot0 (corC ps cs).reverse) = false:=by simpa using h8
   have hp2:papO ps cs = none:=by rw [hpo,hne,if_neg h6,if_neg h8]
   have hv:vB ps cs = false:=by rw [hvB,hp2]; rfl
   obtain ⟨n1,n2⟩:=no hv
   simp (maxSteps:=999999) (disch:=first|exact {}|omega|simp) [zS,e8,hv,n1,n2,encPs]
theorem c44 (ps:List Pt) (cs:List Cr) (h:(ps.length:Int) ≤ 1048576) (hc:(cs.length:Int) ≤ 1048576):PC E 44 [.i (.ptr (encPa ps cs))] [.i (.bool (vB ps cs))]:=by
 refine zP hE Proofs.Tryz.func44 Proofs.Tryz.ntmps44 rfl rfl ?_
 simp (maxSteps:=999999) (disch:=first|exact {}|omega|simp) [zS]
 refine zC (c96 ps cs h hc) ?_
 simp (maxSteps:=999999) (disch:=first|exact {}|omega|simp) [zS]
theorem typedCr {n:Nat} {el:List IV} (h:Typed E n 124 el):∃ c:Cr,el = encK c:=by
 cases n with
 | zero=>exact h.elim
 | succ n =>
  simp only [Typed,k124,fieldsT] at h
  obtain ⟨a0,b0,rfl,h0,a1,b1,rfl,h1,a2,b2,rfl,h2,rfl⟩:=h
  obtain ⟨x,rfl,-⟩:=typedZ h0
  obtain ⟨y,rfl,-⟩:=typedZ h1
  obtain ⟨z,rfl,-⟩:=typedZ h2
  exact ⟨⟨x,y,z⟩,rfl⟩
theorem typedPa {n:Nat} {el:List IV} (h:Typed E n 25 el):∃ (ps:List Pt) (cs:List Cr),el = encPa ps cs ∧ ps.length ≤ maxLen ∧ cs.length ≤ maxLen:=by
 cases n with
 | zero=>exact h.elim
 | succ n =>
  simp only [Typed,k25,fieldsT] at h
  obtain ⟨a0,b0,rfl,h0,a1,b1,rfl,h1,rfl⟩:=h
  obtain ⟨p,rfl,lp⟩:=typedPts h0
  obtain ⟨c,rfl,lc⟩:=typedSlice (enc:=encK) k23 (fun _ _=>typedCr) h1
  exact ⟨p,c,by simp [encPa],lp,lc⟩
end Go.Vai
