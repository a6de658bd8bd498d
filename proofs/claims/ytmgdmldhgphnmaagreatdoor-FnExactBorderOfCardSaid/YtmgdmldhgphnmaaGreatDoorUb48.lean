/- Texts of this claim: Zq19, Zq20, Zq21, Zq22. -/
import Derived.Test.YtmgdmldhgphnmaaGreatDoorUb46
import Derived.Test.YtmgdmldhgphnmaaGreatDoorUb32
set_option linter.unusedVariables false
set_option linter.unusedSimpArgs false
set_option maxHeartbeats 8000000
set_option maxRecDepth 20000
namespace Go.Vai
theorem c147 (c:Cr) (k:Int) (h0:0 ≤ c.a) (h1:c.a ≤ 1048576) (h2:0 ≤ c.b) (h3:c.b ≤ 1048576) (h4:0 ≤ k) (h5:k ≤ 1048576):PC E 147 [.agg (encK c),.i (.int .i64 k)] [.i (.int .i64 (c.a + c.b - k))]:=by
 refine PC_start hE Proofs.Tryz.func147 rfl rfl Proofs.Tryz.ntmps147 (by kernel_rfl) (by kernel_rfl) (by simp) ?_
 simp (maxSteps:=999999) (disch:=first|exact {}|omega|simp) [Lw,Lm,Lt,Lo,Ln,allLen,encK]
def dg (cs:List Cr) (n k:Nat):List Int:=(List.range n).map fun v=>((nbL (cs.take k) v).length:Int)
@[simp] theorem dg_len (cs:List Cr) (n k:Nat):(dg cs n k).length = n:=by simp [dg]
theorem dg_get (cs:List Cr) {n k v:Nat} (h:v < n):(dg cs n k)[v]? = some ((nbL (cs.take k) v).length:Int):=by simp [dg,h]
theorem dg_zero (cs:List Cr) (n:Nat):dg cs n 0 = List.replicate n 0:=by
 refine List.ext_getElem? fun v=>?_
 by_cases h:v < n
 ·rw [dg_get cs h]; simp [nbL,h]
 ·rw [List.getElem?_eq_none (by simp; omega),List.getElem?_eq_none (by simp; omega)]
theorem nbL_take {cs:List Cr} {k:Nat} (h:k < cs.length) (v:Nat):nbL (cs.take (k + 1)) v = nbL (cs.take k) v ++ oneL v (getK cs k):=by
 rw [List.take_succ_eq_append_getElem h,nbL_snoc,(getK_get h).2]
theorem dg_same {cs:List Cr} {n k:Nat} (h:k < cs.length) (hk:¬ (getK cs k).k = 1):dg cs n (k + 1) = dg cs n k:=by
 unfold dg
 congr 1
 funext v
 rw [nbL_take h,oneL,if_neg hk,List.append_nil]
theorem dg_step {cs:List Cr} {n k:Nat} (h:k < cs.length) (hk:(getK cs k).k = 1) (hc:Cin n (getK cs k)) :
  dg cs n (k + 1) = ((dg cs n k).set (getK cs k).a.toNat ((nbL (cs.take k) (getK cs k).a.toNat).length + 1)).set (getK cs k).b.toNat ((nbL (cs.take k) (getK cs k).b.toNat).length + 1):=by
 obtain ⟨a0,ab,bn⟩:=hc
 have hab:(getK cs k).a.toNat ≠ (getK cs k).b.toNat:=by omega
 refine List.ext_getElem? fun v=>?_
 by_cases hv:v < n
 ·rw [dg_get cs hv,nbL_take h,oneL,if_pos hk]
  by_cases e1:(getK cs k).b.toNat = v
  ·subst e1
   rw [if_neg hab,if_pos rfl,List.getElem?_set_self (by simp; omega)]; simp
  ·rw [List.getElem?_set_ne e1]
   by_cases e2:(getK cs k).a.toNat = v
   ·subst e2
    rw [if_pos rfl,List.getElem?_set_self (by simp; omega)]; simp
   ·rw [if_neg e2,if_neg e1,List.append_nil,List.getElem?_set_ne e2,dg_get cs hv]
 ·rw [List.getElem?_eq_none (by simp; omega),List.getElem?_eq_none (by simp; omega)]
theorem oneL_len (v:Nat) (c:Cr):(oneL v c).length ≤ 1:=by
 unfold oneL; split <;> (try split) <;> (try split) <;> simp
theorem nbI_len0:∀ (l:List Cr) (v:Nat),(nbL l v).length ≤ l.length
 | [],v=>by simp [nbL]
 | c :: l,v=>by
  have h1:=nbI_len0 l v
  have h2:=oneL_len v c
  rw [nbL_cons,List.length_append,List.length_cons]
  omega
theorem bcnt_snoc {cs:List Cr} {k:Nat} (h:k < cs.length):bcnt (cs.take (k + 1)) = bcnt (cs.take k) + if (getK cs k).k = 1 then 1 else 0:=by
 rw [List.take_succ_eq_append_getElem h,(getK_get h).2]
 unfold bcnt
 rw [List.filter_append,List.length_append]
 congr 1
 by_cases hk:(cs[k]).k = 1 <;> simp [hk]
theorem bcnt_le (l:List Cr):bcnt l ≤ l.length:=List.length_filter_le _ _
noncomputable def rndS (n:Nat) (cs:List Cr):List Int:=if degB n cs = true then rndI cs else []
theorem deg_no {n:Nat} {cs:List Cr} {v:Nat} (hv:v < n) (h0:¬ (nbL cs v).length = 0) (h2:¬ (nbL cs v).length = 2):degB n cs = false:=by
 cases h:degB n cs with
 | false=>rfl
 | true=>exact absurd ((degB_iff.1 h).1 v hv) (by omega)
theorem okR_no {ps:List Pt} {cs:List Cr} (hnm:nmsOk ps cs = true) (h:degB ps.length cs = false):okR cs = false:=by
 cases ho:okR cs with
 | false=>rfl
 | true =>
  by_cases hn:0 < ps.length
  ·rw [okR_deg hnm hn ho] at h; simp at h
  ·have hcs:cs = []:=by
    cases cs with
    | nil=>rfl
    | cons c l =>
     have:=nmsOk_cin hnm c (by simp)
     obtain ⟨a0,ab,bn⟩:=this
     omega
   subst hcs
   have:brdM [] = 0:=brdM_no fun ⟨m,hm⟩=>by
    have:=(hm.d 0 hm.m0).1
    simp [nbL] at this
   unfold okR at ho
   rw [this] at ho
   simp at ho
theorem c118 (ps:List Pt) (cs:List Cr) (hnm:nmsOk ps cs = true) (h:(ps.length:Int) ≤ 1048576) (hc:(cs.length:Int) ≤ 1048576) :
  PC E 118 [.i (.ptr (encPa ps cs))] [.own 1 ((rndS ps.length cs).map encI),.i (.bool (okR cs))]:=by
 have hcin:=nmsOk_cin hnm
 refine PC_start hE Proofs.Tryz.func118 rfl rfl Proofs.Tryz.ntmps118 (by kernel_rfl) (by kernel_rfl) (by simp) ?_
 simp (maxSteps:=999999) (disch:=first|exact {}|omega|simp) [Lw,Lm,Lt,Lo,Ln,allLen,encPa]
 refine XL.by hE (ι:={ k:Nat // k ≤ cs.length }) (fun k=>⟨[(0,.i (.ptr (encPa ps cs))),(4,.i (.int .i64 (bcnt (cs.take k.1)))),(5,.own 20 0 ps.length),(6,.i (.int .i64 k.1))],[(20,⟨1,(dg cs ps.length k.1).map encI⟩)]⟩)
  (fun k=>cs.length - k.1) ⟨0,Nat.zero_le _⟩ ⟨by simp [encPa,bcnt],by simp [dg_zero,encI],by simp⟩ (by kernel_rfl) ?_
 rintro ⟨k,hk⟩
 by_cases hlt:k < cs.length
 ·obtain ⟨hg,he⟩:=getK_get hlt
  have hci:=hcin _ (List.getElem_mem hlt)
  rw [← he] at hci
  have hbc:=bcnt_snoc hlt
  have hbl:=bcnt_le (cs.take k)
  have hsm:=dg_same (n:=ps.length) hlt
  have hst:=fun hk=>dg_step (n:=ps.length) hlt hk hci
  have hlk:(cs.take k).length = k:=by simp; omega
  have hdl:=fun v=>nbI_len0 (cs.take k) v
  have hga:=fun (v:Nat) (hv:v < ps.length)=>dg_get cs (k:=k) hv
  clear he
  generalize getK cs k = c at *
  obtain ⟨a0,ab,bn⟩:=hci
  by_cases hk1:c.k = 1
  ·have na:¬ c.a < 0:=by omega
   have nb:¬ c.b < 0:=by omega
   have la:c.a.toNat < ps.length:=by omega
   have lb:c.b.toNat < ps.length:=by omega
   have hab:c.a.toNat ≠ c.b.toNat:=by omega
   have ga:((dg cs ps.length k).map encI)[c.a.toNat]? = some [.int .i64 ((nbL (cs.take k) c.a.toNat).length:Int)]:=by rw [List.getElem?_map,hga _ la]; rfl
   have gb:((dg cs ps.length k).map encI)[c.b.toNat]? = some [.int .i64 ((nbL (cs.take k) c.b.toNat).length:Int)]:=by rw [List.getElem?_map,hga _ lb]; rfl
   have da:=hdl c.a.toNat
   have db:=hdl c.b.toNat
   have hst2:(dg cs ps.length (k + 1)).map encI = (((dg cs ps.length k).map encI).set c.a.toNat [.int .i64 (((nbL (cs.take k) c.a.toNat).length:Int) + 1)]).set c.b.toNat [.int .i64 (((nbL (cs.take k) c.b.toNat).length:Int) + 1)]:=by
    rw [hst hk1]; simp [List.map_set,encI]
   have hlD:((dg cs ps.length k).map encI).length = ps.length:=by simp
   have ga2:=(List.getElem?_eq_some_iff.1 ga).2
   have gb2:=(List.getElem?_eq_some_iff.1 gb).2
   generalize (dg cs ps.length k).map encI = D at *
   simp (maxSteps:=999999) (disch:=first|exact {}|omega|simp) [Lw,Lm,Lt,Lo,Ln,allLen,hlt,hg,encK,hk1,na,nb,la,lb,hlD,ga,gb,ga2,gb2,hab,encPa]
   (refine ⟨⟨k + 1,by omega⟩,by (simp; try omega), ?_⟩; constructor <;> (simp (maxSteps:=999999) (disch:=first|exact {}|omega|simp) [Lw,Lm,Lt,Lo,Ln,allLen,encPa,hst2,hbc,hk1]) <;> (try omega))
  ·have hs:=hsm hk1
   simp (maxSteps:=999999) (disch:=first|exact {}|omega|simp) [Lw,Lm,Lt,Lo,Ln,allLen,hlt,hg,encK,hk1,encPa]
   (refine ⟨⟨k + 1,by omega⟩,by (simp; try omega), ?_⟩; constructor <;> (simp (maxSteps:=999999) (disch:=first|exact {}|omega|simp) [Lw,Lm,Lt,Lo,Ln,allLen,encPa,hs,hbc,hk1]) <;> (try omega))
 obtain rfl:k = cs.length:=by omega
 have hbl:=bcnt_le cs
 simp (maxSteps:=999999) (disch:=first|exact {}|omega|simp) [Lw,Lm,Lt,Lo,Ln,allLen,encPa]
 have hga:=fun (v:Nat) (hv:v < ps.length)=>dg_get cs (k:=cs.length) hv
 have hdl:=fun v=>nbI_len0 cs v
 simp only [List.take_length] at hga ⊢
 have hlD:((dg cs ps.length cs.length).map encI).length = ps.length:=by simp
 have hgD:∀ v:Nat,v < ps.length → ((dg cs ps.length cs.length).map encI)[v]? = some [.int .i64 ((nbL cs v).length:Int)]:=fun v hv=>by rw [List.getElem?_map,hga v hv]; rfl
 generalize (dg cs ps.length cs.length).map encI = D at *
 refine XL.by hE (ι:={ k:Nat // k ≤ ps.length ∧ ∀ v,v < k → (nbL cs v).length = 0 ∨ (nbL cs v).length = 2 }) (fun k=>⟨[(0,.i (.ptr (encPa ps cs))),(4,.i (.int .i64 (bcnt cs))),(5,.own 20 0 ps.length),(7,.i (.int .i64 k.1))],[(20,⟨1,D⟩)]⟩)
  (fun k=>ps.length - k.1) ⟨0,Nat.zero_le _,fun v hv=>absurd hv (Nat.not_lt_zero _)⟩ ⟨by simp [encPa],by simp,by simp⟩ (by kernel_rfl) ?_
 rintro ⟨k,hk,hdeg⟩
 by_cases hlt:k < ps.length
 ·have g1:=hgD k hlt
  have g2:=(List.getElem?_eq_some_iff.1 g1).2
  have dk:=hdl k
  by_cases e0:(nbL cs k).length = 0
  ·have e0':((nbL cs k).length:Int) = 0:=by omega
   rw [e0'] at g1
   replace g2:=(List.getElem?_eq_some_iff.1 g1).2
   simp (maxSteps:=999999) (disch:=first|exact {}|omega|simp) [Lw,Lm,Lt,Lo,Ln,allLen,hlt,hlD,g1,g2]
   (refine ⟨⟨k + 1,by omega,fun v hv=>by
    by_cases e:v = k
    ·subst e; exact .inl e0
    ·exact hdeg v (by omega)⟩,by (simp; try omega), ?_⟩; constructor <;> (simp (maxSteps:=999999) (disch:=first|exact {}|omega|simp) [Lw,Lm,Lt,Lo,Ln,allLen,encPa]) <;> (try omega))
  ·by_cases e2:(nbL cs k).length = 2
   ·have e2':((nbL cs k).length:Int) = 2:=by omega
    rw [e2'] at g1
    replace g2:=(List.getElem?_eq_some_iff.1 g1).2
    simp (maxSteps:=999999) (disch:=first|exact {}|omega|simp) [Lw,Lm,Lt,Lo,Ln,allLen,hlt,hlD,g1,g2]
    (refine ⟨⟨k + 1,by omega,fun v hv=>by
     by_cases e:v = k
     ·subst e; exact .inr e2
     ·exact hdeg v (by omega)⟩,by (simp; try omega), ?_⟩; constructor <;> (simp (maxSteps:=999999) (disch:=first|exact {}|omega|simp) [Lw,Lm,Lt,Lo,Ln,allLen,encPa]) <;> (try omega))
   ·have hd:=deg_no hlt e0 e2
    have hr:rndS ps.length cs = []:=by unfold rndS; rw [hd]; rfl
    have ho:=okR_no hnm hd
    generalize (nbL cs k).length = q at *
    simp (maxSteps:=999999) (disch:=first|exact {}|omega|simp) [Lw,Lm,Lt,Lo,Ln,allLen,hlt,hlD,g1,g2,e0,e2,hr,ho]
 obtain rfl:k = ps.length:=by omega
 simp (maxSteps:=999999) (disch:=first|exact {}|omega|simp) [Lw,Lm,Lt,Lo,Ln,allLen]
 by_cases hn:ps.length = 0
 ·have hd:degB ps.length cs = false:=by
   cases h:degB ps.length cs with
   | false=>rfl
   | true=>exact absurd (degB_iff.1 h).2.1 (by omega)
  have hr:rndS ps.length cs = []:=by unfold rndS; rw [hd]; rfl
  have ho:=okR_no hnm hd
  have hps:ps = []:=List.length_eq_zero_iff.1 hn
  subst hps
  have hr':rndS 0 cs = []:=hr
  simp (maxSteps:=999999) (disch:=first|exact {}|omega|simp) [Lw,Lm,Lt,Lo,Ln,allLen,hn,hr',ho]
 have hn0:0 < ps.length:=by omega
 have hpn:ps ≠ []:=fun e=>hn (by rw [e]; rfl)
 have g1:=hgD 0 hn0
 have g2:=(List.getElem?_eq_some_iff.1 g1).2
 by_cases e2:(nbL cs 0).length = 2
 rotate_left
 ·have hd:degB ps.length cs = false:=by
   cases h:degB ps.length cs with
   | false=>rfl
   | true=>exact absurd (degB_iff.1 h).2.2 e2
  have hr:rndS ps.length cs = []:=by unfold rndS; rw [hd]; rfl
  have ho:=okR_no hnm hd
  generalize (nbL cs 0).length = q at *
  simp (maxSteps:=999999) (disch:=first|exact {}|omega|simp) [Lw,Lm,Lt,Lo,Ln,allLen,hn,hn0,hpn,hlD,g1,g2,e2,hr,ho]
 have hd:degB ps.length cs = true:=degB_iff.2 ⟨hdeg,hn0,e2⟩
 have hB:=deg_bck hnm hd
 have hr:rndS ps.length cs = rndI cs:=by unfold rndS; rw [if_pos hd]
 have hG:=nb_gr hnm
 have hM:rndI cs = rngI cs (brdM cs):=rfl
 have hoR:okR cs = decide ((brdM cs:Int) = bcnt cs):=by
  have:=hB.m0
  unfold okR
  by_cases q:brdM cs = bcnt cs
  ·rw [decide_eq_true q,decide_eq_true (show (brdM cs:Int) = bcnt cs by omega),decide_eq_true this]; rfl
  ·rw [decide_eq_false q,decide_eq_false (show ¬ (brdM cs:Int) = bcnt cs by omega)]; simp
 have hMb:=bck_le hnm hn0 hB.d
 generalize brdM cs = M at *
 have e2':((nbL cs 0).length:Int) = 2:=by omega
 rw [e2'] at g1
 replace g2:=(List.getElem?_eq_some_iff.1 g1).2
 simp (maxSteps:=999999) (disch:=first|exact {}|omega|simp) [Lw,Lm,Lt,Lo,Ln,allLen,hn,hn0,hpn,hlD,g1,g2]
 have hw0:Wk.w (nbL cs) 0 = 0:=rfl
 refine XL.by hE (ι:={ p:Nat × Int // 0 < p.1 ∧ p.1 ≤ M ∧ LastOk cs p.1 p.2 ∧ -1 ≤ p.2 ∧ p.2 < cs.length }) (fun p=>⟨[(0,.i (.ptr (encPa ps cs))),(4,.i (.int .i64 (bcnt cs))),(8,.own 94 0 p.1.1),(9,.i (.int .i64 p.1.2))],[(94,⟨1,(rngI cs p.1.1).map encI⟩)]⟩)
  (fun p=>M - p.1.1) ⟨(1,-1),Nat.one_pos,hB.m0,.inl ⟨rfl,rfl⟩,by simp,by simp; omega⟩ ⟨by simp [encPa],by simp [rngI,hw0,encI],by simp⟩ (by kernel_rfl) ?_
 rintro ⟨⟨m,last⟩,hm0,hmM,hLast,hl0,hl1⟩
 simp only at hm0 hmM hLast hl0 hl1
 have hgm:((rngI cs m).map encI)[m - 1]? = some [.int .i64 (Wk.w (nbL cs) (m - 1):Int)]:=by rw [List.getElem?_map,rngI_get cs (by omega)]; rfl
 have hgm2:=(List.getElem?_eq_some_iff.1 hgm).2
 have hrl:=rngI_len cs m
 have em:((m:Int) - 1).toNat = m - 1:=by omega
 have em0:¬ ((m:Int) - 1 < 0):=by omega
 have eml:m - 1 < m:=by omega
 have hwb:=Wk.w_bd hG hn0 (hB.d.le hmM) (m - 1) (by omega)
 have hwm:=Wk.w_bd hG hn0 (hB.d.le hmM) m (Nat.le_refl _)
 simp (maxSteps:=999999) (disch:=first|exact {}|omega|simp) [Lw,Lm,Lt,Lo,Ln,allLen,hgm,hgm2,hrl,em,em0,eml]
 generalize hat:Wk.w (nbL cs) (m - 1) = at_ at *
 refine XL.by hE (ι:={ p:Nat × Int // p.1 ≤ cs.length ∧ Fst cs last at_ p.1 p.2 ∧ -1 ≤ p.2 ∧ p.2 < cs.length }) (fun p=>⟨[(0,.i (.ptr (encPa ps cs))),(4,.i (.int .i64 (bcnt cs))),(8,.own 94 0 m),(9,.i (.int .i64 last)),(10,.i (.int .i64 at_)),(11,.i (.int .i64 p.1.2)),(12,.i (.int .i64 p.1.1))],[(94,⟨1,(rngI cs m).map encI⟩)]⟩)
  (fun p=>cs.length - p.1.1) ⟨(0,-1),Nat.zero_le _,Fst.start cs last at_,by simp,by simp; omega⟩ ⟨by simp [encPa],by simp,by simp⟩ (by kernel_rfl) ?_
 rintro ⟨⟨i,x⟩,hi,hF,hx0,hx1⟩
 simp only at hi hF hx0 hx1
 by_cases hil:i < cs.length
 ·obtain ⟨hg,he⟩:=getK_get hil
  have hBi:isB cs at_ i = true ↔ (getK cs i).k = 1 ∧ ((getK cs i).a = at_ ∨ (getK cs i).b = at_):=isB_iff
  clear he
  generalize getK cs i = c at *
  by_cases hk1:c.k = 1
  rotate_left
  ·simp (maxSteps:=999999) (disch:=first|exact {}|omega|simp) [Lw,Lm,Lt,Lo,Ln,allLen,hil,hg,encK,hk1,encPa]
   (refine ⟨⟨(i + 1,x),by simp; omega,hF.stay (.inr fun h=>hk1 (hBi.1 h.1).1),hx0,hx1⟩,by (simp; try omega), ?_⟩; constructor <;> (simp (maxSteps:=999999) (disch:=first|exact {}|omega|simp) [Lw,Lm,Lt,Lo,Ln,allLen,encPa]) <;> (try omega))
  by_cases hil2:(i:Int) = last
  ·subst hil2
   simp (maxSteps:=999999) (disch:=first|exact {}|omega|simp) [Lw,Lm,Lt,Lo,Ln,allLen,hil,hg,encK,hk1,encPa]
   (refine ⟨⟨(i + 1,x),by simp; omega,hF.stay (.inr fun h=>h.2 rfl),hx0,hx1⟩,by (simp; try omega), ?_⟩; constructor <;> (simp (maxSteps:=999999) (disch:=first|exact {}|omega|simp) [Lw,Lm,Lt,Lo,Ln,allLen,encPa]) <;> (try omega))
  by_cases ha:c.a = (at_:Int)
  ·by_cases hx:x < 0
   ·simp (maxSteps:=999999) (disch:=first|exact {}|omega|simp) [Lw,Lm,Lt,Lo,Ln,allLen,hil,hg,encK,hk1,hil2,ha,hx,encPa]
    (refine ⟨⟨(i + 1,(i:Int)),by simp; omega,hF.take hx ⟨hBi.2 ⟨hk1,.inl ha⟩,hil2⟩,by first | (simp; done) | (simp; omega) | omega,by first | (simp; done) | (simp; omega) | omega⟩,by (simp; try omega), ?_⟩; constructor <;> (simp (maxSteps:=999999) (disch:=first|exact {}|omega|simp) [Lw,Lm,Lt,Lo,Ln,allLen,encPa]) <;> (try omega))
   ·simp (maxSteps:=999999) (disch:=first|exact {}|omega|simp) [Lw,Lm,Lt,Lo,Ln,allLen,hil,hg,encK,hk1,hil2,ha,hx,encPa]
    (refine ⟨⟨(i + 1,x),by simp; omega,hF.stay (.inl (by omega)),hx0,hx1⟩,by (simp; try omega), ?_⟩; constructor <;> (simp (maxSteps:=999999) (disch:=first|exact {}|omega|simp) [Lw,Lm,Lt,Lo,Ln,allLen,encPa]) <;> (try omega))
  by_cases hb:c.b = (at_:Int)
  ·by_cases hx:x < 0
   ·simp (maxSteps:=999999) (disch:=first|exact {}|omega|simp) [Lw,Lm,Lt,Lo,Ln,allLen,hil,hg,encK,hk1,hil2,ha,hb,hx,encPa]
    (refine ⟨⟨(i + 1,(i:Int)),by simp; omega,hF.take hx ⟨hBi.2 ⟨hk1,.inr hb⟩,hil2⟩,by first | (simp; done) | (simp; omega) | omega,by first | (simp; done) | (simp; omega) | omega⟩,by (simp; try omega), ?_⟩; constructor <;> (simp (maxSteps:=999999) (disch:=first|exact {}|omega|simp) [Lw,Lm,Lt,Lo,Ln,allLen,encPa]) <;> (try omega))
   ·simp (maxSteps:=999999) (disch:=first|exact {}|omega|simp) [Lw,Lm,Lt,Lo,Ln,allLen,hil,hg,encK,hk1,hil2,ha,hb,hx,encPa]
    (refine ⟨⟨(i + 1,x),by simp; omega,hF.stay (.inl (by omega)),hx0,hx1⟩,by (simp; try omega), ?_⟩; constructor <;> (simp (maxSteps:=999999) (disch:=first|exact {}|omega|simp) [Lw,Lm,Lt,Lo,Ln,allLen,encPa]) <;> (try omega))
  ·simp (maxSteps:=999999) (disch:=first|exact {}|omega|simp) [Lw,Lm,Lt,Lo,Ln,allLen,hil,hg,encK,hk1,hil2,ha,hb,encPa]
   (refine ⟨⟨(i + 1,x),by simp; omega,hF.stay (.inr fun h=>(hBi.1 h.1).2.elim ha hb),hx0,hx1⟩,by (simp; try omega), ?_⟩; constructor <;> (simp (maxSteps:=999999) (disch:=first|exact {}|omega|simp) [Lw,Lm,Lt,Lo,Ln,allLen,encPa]) <;> (try omega))
 obtain rfl:i = cs.length:=by omega
 subst hat
 obtain ⟨j,rfl,hj,hto,hL2⟩:=hF.next hnm hB hm0 hmM hLast
 obtain ⟨hg,he⟩:=getK_get hj
 have hci:=hcin _ (List.getElem_mem hj)
 rw [← he] at hci
 clear he
 generalize getK cs j = c at *
 obtain ⟨a0,ab,bn⟩:=hci
 simp (maxSteps:=999999) (disch:=first|exact {}|omega|simp) [Lw,Lm,Lt,Lo,Ln,allLen,hj,hg,encPa]
 refine CallK.of (c147 c (Wk.w (nbL cs) (m - 1)) a0 (by omega) (by omega) (by omega) (by omega) (by omega)) (by first | exact .inl rfl | exact .inr (by simp)) (by simp) ?_
 rw [hto]
 have hrt:List.take m ((rngI cs m).map encI) = (rngI cs m).map encI:=List.take_of_length_le (by simp [hrl])
 by_cases hz:Wk.w (nbL cs) m = 0
 ·have hmM2:m = M:=by
   have hBm:Bck cs m:=⟨hm0,hB.d.le hmM,hz⟩
   exact hBm.uniq hB
  subst hmM2
  simp (maxSteps:=999999) (disch:=first|exact {}|omega|simp) [Lw,Lm,Lt,Lo,Ln,allLen,hz,hr,hM,hoR,hrt,hrl]
 ·have hz':¬ (Wk.w (nbL cs) m:Int) = 0:=by omega
  have hlt2:m < M:=by
   rcases Nat.lt_or_ge m M with h | h
   ·exact h
   ·obtain rfl:m = M:=by omega
    exact absurd hB.z hz
  have hsn2:=rngI_snoc cs m
  simp (maxSteps:=999999) (disch:=first|exact {}|omega|simp) [Lw,Lm,Lt,Lo,Ln,allLen,hz,hz',hrt,hrl]
  (refine ⟨⟨(m + 1,(j:Int)),by simp,by simp; omega,hL2,by first | (simp; done) | (simp; omega) | omega,by first | (simp; done) | (simp; omega) | omega⟩,by (simp; try omega), ?_⟩; constructor <;> (simp (maxSteps:=999999) (disch:=first|exact {}|omega|simp) [Lw,Lm,Lt,Lo,Ln,allLen,encPa,hsn2,encI,hrt,hrl]) <;> (try omega))
end Go.Vai
namespace Go.Vai
theorem nth_map (ps:List Pt) (l:List Int) {k:Nat} (h:k < l.length):nth (l.map (pI ps)) k = pI ps l[k]:=by
 rw [nth_eq (by simpa using h)]; simp
theorem c120 (ps:List Pt) (cs:List Cr) (hv:∀ p ∈ ps,PV p) (l:List Int) (hl:∀ i ∈ l,0 ≤ i ∧ i < ps.length) (h:(l.length:Int) ≤ 1048576) :
  PC E 120 [.i (.ptr (encPa ps cs)),.i (.sl (l.map encI))] [.own 6 (encPs (bendN (l.map (pI ps)) l.length))]:=by
 refine PC_start hE Proofs.Tryz.func120 rfl rfl Proofs.Tryz.ntmps120 (by kernel_rfl) (by kernel_rfl) (by simp) ?_
 simp (maxSteps:=999999) (disch:=first|exact {}|omega|simp) [Lw,Lm,Lt,Lo,Ln,allLen]
 refine XL.by hE (ι:={ k:Nat // k ≤ l.length }) (fun k=>⟨[(0,.i (.ptr (encPa ps cs))),(1,.i (.sl (l.map encI))),(5,.own 81 0 (bendN (l.map (pI ps)) k.1).length),(6,.i (.int .i64 l.length)),(7,.i (.int .i64 k.1))],[(81,⟨6,encPs (bendN (l.map (pI ps)) k.1)⟩)]⟩)
  (fun k=>l.length - k.1) ⟨0,Nat.zero_le _⟩ ⟨by simp [bendN],by simp [bendN,encPs],by simp⟩ (by kernel_rfl) ?_
 rintro ⟨k,hk⟩
 have hbl:=bendN_len (l.map (pI ps)) k
 by_cases hlt:k < l.length
 ·have m1:(k + l.length - 1) % l.length < l.length:=Nat.mod_lt _ (by omega)
  have m2:(k + 1) % l.length < l.length:=Nat.mod_lt _ (by omega)
  have e1:((k:Int) + l.length - 1).tmod l.length = (((k + l.length - 1) % l.length:Nat):Int):=by
   rw [show (k:Int) + l.length - 1 = ((k + l.length - 1:Nat):Int) by omega]; rfl
  have e2:((k:Int) + 1).tmod l.length = (((k + 1) % l.length:Nat):Int):=by
   rw [show (k:Int) + 1 = ((k + 1:Nat):Int) by omega]; rfl
  have hne:l ≠ []:=by rintro rfl; simp at hlt
  have hnl:¬ (l.length:Int) = 0:=by omega
  have tX:List.take (bendN (l.map (pI ps)) k).length (encPs (bendN (l.map (pI ps)) k)) = encPs (bendN (l.map (pI ps)) k):=List.take_of_length_le (by simp [encPs])
  have hb:bendB (l.map (pI ps)) k = decide (dirR (pminus (pI ps l[k]) (pI ps (l[(k + l.length - 1) % l.length]))) ≠ dirR (pminus (pI ps (l[(k + 1) % l.length])) (pI ps l[k]))):=by
   unfold bendB
   rw [List.length_map,nth_map ps l hlt,nth_map ps l m1,nth_map ps l m2]
  have hst:bendN (l.map (pI ps)) (k + 1) = bendN (l.map (pI ps)) k ++ if bendB (l.map (pI ps)) k = true then [pI ps l[k]] else []:=by
   rw [← nth_map ps l hlt]; rfl
  have gI:∀ (j:Nat) (hj:j < l.length),(l.map encI)[j]? = some [.int .i64 l[j]]:=fun j hj=>by simp [hj,encI]
  have gP:∀ (j:Nat) (hj:j < l.length),¬ l[j] < 0 ∧ (l[j]).toNat < ps.length ∧ (encPs ps)[(l[j]).toNat]? = some (encP (pI ps l[j])) ∧ PV (pI ps l[j]):=fun j hj=>by
   obtain ⟨b0,b1⟩:=hl _ (List.getElem_mem hj)
   exact ⟨by omega,by omega,encPs_get (l:=ps) (k:=(l[j]).toNat) (by omega),pI_pv hv b0 b1⟩
  have g0:=gI k hlt
  have g1:=gI _ m1
  have g2:=gI _ m2
  obtain ⟨n0,b0,p0,v0⟩:=gP k hlt
  obtain ⟨n1,b1,p1,v1⟩:=gP _ m1
  obtain ⟨n2,b2,p2,v2⟩:=gP _ m2
  have d1:=c164 (pminus (pI ps l[k]) (pI ps (l[(k + l.length - 1) % l.length]))) (v0.minus v1) (by decide) (by decide)
  have d2:=c164 (pminus (pI ps (l[(k + 1) % l.length])) (pI ps l[k])) (v2.minus v0) (by decide) (by decide)
  have s1:=c165 (pI ps l[k]) (pI ps (l[(k + l.length - 1) % l.length])) v0 v1 (by decide) (by decide)
  have s2:=c165 (pI ps (l[(k + 1) % l.length])) (pI ps l[k]) v2 v0 (by decide) (by decide)
  clear gI gP v0 v1 v2
  have hLE:(l.map encI).length = l.length:=by simp
  generalize l.map encI = LE at *
  have g0':=(List.getElem?_eq_some_iff.1 g0).2
  have g1':=(List.getElem?_eq_some_iff.1 g1).2
  have g2':=(List.getElem?_eq_some_iff.1 g2).2
  generalize bendB (l.map (pI ps)) k = bB at *
  generalize l[k] = z0 at *
  generalize (k + l.length - 1) % l.length = i1 at *
  generalize (k + 1) % l.length = i2 at *
  generalize l[i1] = z1 at *
  generalize l[i2] = z2 at *
  simp (maxSteps:=999999) (disch:=first|exact {}|omega|simp) [Lw,Lm,Lt,Lo,Ln,allLen,hlt,g0,g0',hLE,n0,b0,p0,encPa]
  refine CallK.of (c163 _) (by first | exact .inl rfl | exact .inr (by simp)) (by simp) ?_
  simp (maxSteps:=999999) (disch:=first|exact {}|omega|simp) [Lw,Lm,Lt,Lo,Ln,allLen,hlt,g1,g1',hLE,n1,b1,p1,hnl,hne,e1,m1,encPa]
  refine CallK.of (c163 _) (by first | exact .inl rfl | exact .inr (by simp)) (by simp) ?_
  simp (maxSteps:=999999) (disch:=first|exact {}|omega|simp) [Lw,Lm,Lt,Lo,Ln,allLen]
  refine CallK.of (s1) (by first | exact .inl rfl | exact .inr (by simp)) (by simp) ?_
  simp (maxSteps:=999999) (disch:=first|exact {}|omega|simp) [Lw,Lm,Lt,Lo,Ln,allLen]
  refine CallK.of (d1) (by first | exact .inl rfl | exact .inr (by simp)) (by simp) ?_
  simp (maxSteps:=999999) (disch:=first|exact {}|omega|simp) [Lw,Lm,Lt,Lo,Ln,allLen,hlt,g2,g2',hLE,n2,b2,p2,hnl,hne,e2,m2,encPa]
  refine CallK.of (c163 _) (by first | exact .inl rfl | exact .inr (by simp)) (by simp) ?_
  simp (maxSteps:=999999) (disch:=first|exact {}|omega|simp) [Lw,Lm,Lt,Lo,Ln,allLen]
  refine CallK.of (s2) (by first | exact .inl rfl | exact .inr (by simp)) (by simp) ?_
  simp (maxSteps:=999999) (disch:=first|exact {}|omega|simp) [Lw,Lm,Lt,Lo,Ln,allLen]
  refine CallK.of (d2) (by first | exact .inl rfl | exact .inr (by simp)) (by simp) ?_
  simp (maxSteps:=999999) (disch:=first|exact {}|omega|simp) [Lw,Lm,Lt,Lo,Ln,allLen]
  by_cases u1:dirR (pminus (pI ps z0) (pI ps z1)) = dirR (pminus (pI ps z2) (pI ps z0))
  ·have hs:bendN (l.map (pI ps)) (k + 1) = bendN (l.map (pI ps)) k:=by rw [hst,hb,decide_eq_false (by simpa using u1)]; simp
   simp (maxSteps:=999999) (disch:=first|exact {}|omega|simp) [Lw,Lm,Lt,Lo,Ln,allLen,u1]
   (refine ⟨⟨k + 1,by omega⟩,by (simp; try omega), ?_⟩; constructor <;> (simp (maxSteps:=999999) (disch:=first|exact {}|omega|simp) [Lw,Lm,Lt,Lo,Ln,allLen,hs,encPa]) <;> (try omega))
  ·have hs:bendN (l.map (pI ps)) (k + 1) = bendN (l.map (pI ps)) k ++ [pI ps z0]:=by rw [hst,hb,decide_eq_true u1]; simp
   have hs2:encPs (bendN (l.map (pI ps)) (k + 1)) = encPs (bendN (l.map (pI ps)) k) ++ [encP (pI ps z0)]:=by rw [hs]; simp [encPs]
   have hs3:(bendN (l.map (pI ps)) (k + 1)).length = (bendN (l.map (pI ps)) k).length + 1:=by rw [hs]; simp
   simp (maxSteps:=999999) (disch:=first|exact {}|omega|simp) [Lw,Lm,Lt,Lo,Ln,allLen,u1,hlt,g0,g0',hLE,n0,b0,p0,encPa]
   (refine ⟨⟨k + 1,by omega⟩,by (simp; try omega), ?_⟩; constructor <;> (simp (maxSteps:=999999) (disch:=first|exact {}|omega|simp) [Lw,Lm,Lt,Lo,Ln,allLen,hs2,hs3,tX,encPa]) <;> (try omega))
 ·obtain rfl:k = l.length:=by omega
  have tX:List.take (bendN (l.map (pI ps)) l.length).length (encPs (bendN (l.map (pI ps)) l.length)) = encPs (bendN (l.map (pI ps)) l.length):=List.take_of_length_le (by simp [encPs])
  simp (maxSteps:=999999) (disch:=first|exact {}|omega|simp) [Lw,Lm,Lt,Lo,Ln,allLen,tX]
theorem leastF_one (l:List Pt):leastF l 1 = 0:=by
 unfold leastF
 split <;> rfl
theorem c121 (l:List Pt) (hv:∀ p ∈ l,PV p) (h:(l.length:Int) ≤ 1048576):PC E 121 [.i (.sl (encPs l))] [.own 6 (encPs (rot0 l))]:=by
 by_cases h0:l = []
 ·subst h0
  refine PC_start hE Proofs.Tryz.func121 rfl rfl Proofs.Tryz.ntmps121 (by kernel_rfl) (by kernel_rfl) (by simp) ?_
  simp (maxSteps:=999999) (disch:=first|exact {}|omega|simp) [Lw,Lm,Lt,Lo,Ln,allLen]
  refine XL.by hE (ι:=Unit) (fun _=>⟨[(0,.i (.sl [])),(3,.i (.int .i64 0)),(4,.i (.int .i64 1))],[]⟩) (fun _=>0) () ⟨by simp [encPs],by simp,by simp⟩ (by kernel_rfl) ?_
  rintro ⟨⟩
  simp (maxSteps:=999999) (disch:=first|exact {}|omega|simp) [Lw,Lm,Lt,Lo,Ln,allLen,rot0,encPs]
 have hlp:0 < l.length:=List.length_pos_iff.2 h0
 refine PC_start hE Proofs.Tryz.func121 rfl rfl Proofs.Tryz.ntmps121 (by kernel_rfl) (by kernel_rfl) (by simp) ?_
 simp (maxSteps:=999999) (disch:=first|exact {}|omega|simp) [Lw,Lm,Lt,Lo,Ln,allLen]
 refine XL.by hE (ι:={ k:Nat // 1 ≤ k ∧ k ≤ l.length }) (fun k=>⟨[(0,.i (.sl (encPs l))),(3,.i (.int .i64 (leastF l k.1))),(4,.i (.int .i64 k.1))],[]⟩)
  (fun k=>l.length - k.1) ⟨1,Nat.le_refl _,hlp⟩ ⟨by simp [leastF_one],by simp,by simp⟩ (by kernel_rfl) ?_
 rintro ⟨k,hk1,hk⟩
 by_cases hlt:k < l.length
 ·have hlk:=leastF_lt hk hlp
  simp (maxSteps:=999999) (disch:=first|exact {}|omega|simp) [Lw,Lm,Lt,Lo,Ln,allLen,hlt,hlk,encPs_get hlt,encPs_get hlk]
  refine CallK.of (c169 (nth l k) (nth l (leastF l k)) (hv _ (nth_mem hlt)) (hv _ (nth_mem hlk)) (by decide) (by decide)) (by first | exact .inl rfl | exact .inr (by simp)) (by simp) ?_
  simp (maxSteps:=999999) (disch:=first|exact {}|omega|simp) [Lw,Lm,Lt,Lo,Ln,allLen]
  (first | refine Gd.dec (fun hc=>?_) (fun hc=>?_) | refine Gd.intro (fun hc=>?_) (fun hc=>?_)) <;> simp (maxSteps:=999999) (disch:=first|exact {}|omega|simp) [Lw,Lm,Lt,Lo,Ln,allLen,hc]
  ·(refine ⟨⟨k + 1,by omega,by omega⟩,by (simp; try omega), ?_⟩; constructor <;> (simp (maxSteps:=999999) (disch:=first|exact {}|omega|simp) [Lw,Lm,Lt,Lo,Ln,allLen,leastF,hc]) <;> (try omega))
  ·(refine ⟨⟨k + 1,by omega,by omega⟩,by (simp; try omega), ?_⟩; constructor <;> (simp (maxSteps:=999999) (disch:=first|exact {}|omega|simp) [Lw,Lm,Lt,Lo,Ln,allLen,leastF,hc]) <;> (try omega))
 ·obtain rfl:k = l.length:=by omega
  have hle:leastF l l.length = least l:=rfl
  have hlk:least l < l.length:=leastF_lt (Nat.le_refl _) hlp
  have ht:List.take (l.length - least l) (List.drop (least l) (encPs l)) = encPs (l.drop (least l)):=by rw [encPs_drop]; exact List.take_of_length_le (by simp)
  have ht2:List.take (least l) (encPs l) = encPs (l.take (least l)):=encPs_take _ _
  have tX:List.take (l.length - least l) (encPs (l.drop (least l))) = encPs (l.drop (least l)):=List.take_of_length_le (by simp)
  have hL1:(encPs (l.drop (least l))).length = l.length - least l:=by simp
  have hL2:(encPs (l.take (least l))).length = least l:=by simp; omega
  have e0:(l.length:Int) - (least l:Int) + (least l:Int) = l.length:=by omega
  have hro:encPs (rot0 l) = encPs (l.drop (least l)) ++ encPs (l.take (least l)):=by rw [rot0,encPs_append]
  have hrl:(rot0 l).length = l.length:=by simp [rot0]; omega
  have tY:List.take l.length (encPs (l.drop (least l)) ++ encPs (l.take (least l))) = encPs (l.drop (least l)) ++ encPs (l.take (least l)):=List.take_of_length_le (by simp; omega)
  simp (maxSteps:=999999) (disch:=first|exact {}|omega|simp) [Lw,Lm,Lt,Lo,Ln,allLen,hlt,hle,hlk,Nat.le_of_lt hlk,mem_encPs,ht,ht2,tX,hro,hrl,tY,hL1,hL2,encPs_append]
theorem c124 (l:List Pt) (h:(l.length:Int) ≤ 1048576):PC E 124 [.i (.sl (encPs l))] [.own 6 (encPs l.reverse)]:=by
 refine PC_start hE Proofs.Tryz.func124 rfl rfl Proofs.Tryz.ntmps124 (by kernel_rfl) (by kernel_rfl) (by simp) ?_
 simp (maxSteps:=999999) (disch:=first|exact {}|omega|simp) [Lw,Lm,Lt,Lo,Ln,allLen]
 refine XL.by hE (ι:={ k:Nat // k ≤ l.length }) (fun k=>⟨[(0,.i (.sl (encPs l))),(3,.own 19 0 k.1),(4,.i (.int .i64 ((l.length:Int) - 1 - k.1)))],[(19,⟨6,encPs (l.reverse.take k.1)⟩)]⟩)
  (fun k=>l.length - k.1) ⟨0,Nat.zero_le _⟩ ⟨by simp,by simp [encPs],by simp⟩ (by kernel_rfl) ?_
 rintro ⟨k,hk⟩
 have hkl:(l.reverse.take k).length = k:=by simp; omega
 have tX:List.take k (encPs (l.reverse.take k)) = encPs (l.reverse.take k):=List.take_of_length_le (by simp [encPs]; omega)
 by_cases hlt:k < l.length
 ·have hj:l.length - 1 - k < l.length:=by omega
  have ej:((l.length:Int) - 1 - k).toNat = l.length - 1 - k:=by omega
  have ej0:¬ ((l.length:Int) - 1 - k < 0):=by omega
  have ej1:0 ≤ (l.length:Int) - 1 - k:=by omega
  have hg:=encPs_get hj
  have hst:encPs (l.reverse.take (k + 1)) = encPs (l.reverse.take k) ++ [encP (nth l (l.length - 1 - k))]:=by
   rw [List.take_add_one]
   have:l.reverse[k]? = some (nth l (l.length - 1 - k)):=by rw [List.getElem?_reverse hlt,nth_eq hj,List.getElem?_eq_getElem hj]
   rw [this,encPs_append]; rfl
  simp (maxSteps:=999999) (disch:=first|exact {}|omega|simp) [Lw,Lm,Lt,Lo,Ln,allLen,ej,ej0,ej1,hj,hg,hkl]
  (refine ⟨⟨k + 1,by omega⟩,by (simp; try omega), ?_⟩; constructor <;> (simp (maxSteps:=999999) (disch:=first|exact {}|omega|simp) [Lw,Lm,Lt,Lo,Ln,allLen,hst,tX,hkl]) <;> (try omega))
 ·obtain rfl:k = l.length:=by omega
  have hr:l.reverse.take l.length = l.reverse:=List.take_of_length_le (by simp)
  rw [hr] at tX
  have e0:¬ (0 ≤ (l.length:Int) - 1 - l.length):=by omega
  have e0':¬ ((l.length:Int) ≤ l.length - 1):=by omega
  simp (maxSteps:=999999) (disch:=first|exact {}|omega|simp) [Lw,Lm,Lt,Lo,Ln,allLen,e0,e0',hr,tX]
theorem PC_raw0 {E:Env} {f:FuncId} {args:List AV} {rs:List RV} (h:∀ ad c,PC E f (.i (.raw (.slice ad 0 c)) :: args) rs):PC E f (.i (.sl []) :: args) rs:=by
 refine ⟨(h none 0).goes,fun F w cargs hG hlt hsz hrep=>?_⟩
 have h0:0 < cargs.size:=by rw [hsz]; simp
 have hr:=hrep 0 _ _ rfl (Array.getElem?_eq_getElem h0)
 obtain ⟨ad,c,hv⟩:∃ ad c,cargs[0] = .slice ad 0 c:=by
  generalize cargs[0] = v at hr
  cases hr with | i _ _ hr =>
  rcases hr.sl_inv with ⟨-,a,c,rfl⟩ | ⟨b,off,c,sz',rfl,-⟩
  ·exact ⟨a,c,rfl⟩
  ·exact ⟨_,c,rfl⟩
 refine (h ad c).run F w cargs hG hlt (by simpa using hsz) fun j x v hx hv'=>?_
 cases j with
 | zero =>
  obtain rfl:=Option.some.inj hx
  have:v = cargs[0]:=by rw [Array.getElem?_eq_getElem h0] at hv'; exact (Option.some.inj hv').symm
  rw [this,hv]
  exact .i _ _ (.raw _ rfl)
 | succ j=>exact hrep (j + 1) x v (by simpa using hx) hv'
theorem c299 (l:List Pt) (h:(l.length:Int) ≤ 1048576):PC E 299 [.i (.sl (encPs l))] [.own 6 (encPs l)]:=by
 cases l with
 | nil =>
  refine PC_raw0 fun ad c=>?_
  refine PC_start hE Proofs.Tryz.func299 rfl rfl Proofs.Tryz.ntmps299 (by kernel_rfl) (by kernel_rfl) (by simp) ?_
  cases ad with
  | none=>simp (maxSteps:=999999) (disch:=first|exact {}|omega|simp) [Lw,Lm,Lt,Lo,Ln,allLen,encPs]
  | some b=>simp (maxSteps:=999999) (disch:=first|exact {}|omega|simp) [Lw,Lm,Lt,Lo,Ln,allLen,encPs]
 | cons x l =>
  have hx:encPs (x :: l) = encP x :: encPs l:=rfl
  simp at h
  refine PC_start hE Proofs.Tryz.func299 rfl rfl Proofs.Tryz.ntmps299 (by kernel_rfl) (by kernel_rfl) (by simp) ?_
  simp (maxSteps:=999999) (disch:=first|exact {}|omega|simp) [Lw,Lm,Lt,Lo,Ln,allLen,hx,mem_encPs,encP]
  exact (List.take_of_length_le (by simp)).symm
end Go.Vai
namespace Go.Vai
theorem nth_set {l:List Pt} {a t:Nat} {x:Pt} (h:a < l.length):nth (l.set a x) t = if t = a then x else nth l t:=by
 unfold nth
 by_cases e:t = a
 ·subst e; simp [h]
 ·rw [List.getD_eq_getElem?_getD,List.getElem?_set_ne (fun e'=>e e'.symm),if_neg e,List.getD_eq_getElem?_getD]
theorem nth_rev {l:List Pt} {t:Nat} (h:t < l.length):nth l.reverse t = nth l (l.length - 1 - t):=by
 unfold nth
 rw [List.getD_eq_getElem?_getD,List.getElem?_reverse h,List.getD_eq_getElem?_getD]
theorem ext_nth {l m:List Pt} (hl:l.length = m.length) (h:∀ t,t < l.length → nth l t = nth m t):l = m:=by
 refine List.ext_getElem hl fun t h1 h2=>?_
 have:=h t h1
 rwa [nth_eq h1,nth_eq h2] at this
def Rv (l M:List Pt) (i:Nat):Prop:=∀ t,t < l.length → nth M t = if t < i ∨ l.length - i ≤ t then nth l (l.length - 1 - t) else nth l t
theorem Rv.start (l:List Pt):Rv l l 0:=fun t ht=>by rw [if_neg (by omega)]
theorem Rv.step {l M:List Pt} {i:Nat} (hM:M.length = l.length) (h:Rv l M i) (hi:i < l.length - 1 - i):Rv l ((M.set i (nth M (l.length - 1 - i))).set (l.length - 1 - i) (nth M i)) (i + 1):=fun t ht=>by
 have h1:=h i (by omega)
 have h2:=h (l.length - 1 - i) (by omega)
 rw [if_neg (by omega)] at h1 h2
 rw [nth_set (by simp; omega),nth_set (by omega)]
 by_cases e1:t = l.length - 1 - i
 ·rw [if_pos e1,if_pos (by omega),h1,e1]; congr 1; omega
 ·rw [if_neg e1]
  by_cases e2:t = i
  ·rw [if_pos e2,if_pos (by omega),h2,e2]
  ·rw [if_neg e2,h t ht]
   by_cases e3:t < i ∨ l.length - i ≤ t
   ·rw [if_pos e3,if_pos (by omega)]
   ·rw [if_neg e3,if_neg (by omega)]
theorem Rv.done {l M:List Pt} {i:Nat} (hM:M.length = l.length) (h:Rv l M i) (hi:¬ (i:Int) < (l.length:Int) - 1 - i):M = l.reverse:=by
 refine ext_nth (by simp [hM]) fun t ht=>?_
 rw [hM] at ht
 rw [h t ht,nth_rev ht]
 by_cases e:t < i ∨ l.length - i ≤ t
 ·rw [if_pos e]
 ·rw [if_neg e]; congr 1; omega
theorem c300 (l:List Pt) (h:(l.length:Int) ≤ 1048576):PM E 300 [.sl ⟨6,encPs l⟩] [⟨6,encPs l.reverse⟩] []:=by
 have hel:(encPs l).length = l.length:=by simp [encPs]
 have her:(encPs l.reverse).length = l.length:=by simp [encPs]
 refine PM_start hE Proofs.Tryz.func300 rfl rfl Proofs.Tryz.ntmps300 (by kernel_rfl) (by kernel_rfl) (by simp) (by simp [hel,her]) ?_
 simp (maxSteps:=999999) (disch:=first|exact {}|omega|simp) [Lw,Lm,Lt,Lo,Ln,allLen,hel]
 refine XL.by hE (ι:={ p:Nat × List Pt // p.2.length = l.length ∧ p.1 ≤ l.length ∧ Rv l p.2 p.1 }) (fun p=>⟨[(0,.own 700000 0 l.length),(2,.i (.int .i64 p.1.1)),(3,.i (.int .i64 ((l.length:Int) - 1 - p.1.1)))],[(700000,⟨6,encPs p.1.2⟩)]⟩)
  (fun p=>l.length - p.1.1) ⟨(0,l),rfl,Nat.zero_le _,Rv.start l⟩ ⟨by simp,by simp,by simp⟩ (by kernel_rfl) ?_
 rintro ⟨⟨i,M⟩,hM,hi,hR⟩
 simp only at hM hi hR
 have hML:(encPs M).length = l.length:=by simp [encPs,hM]
 by_cases hlt:(i:Int) < (l.length:Int) - 1 - i
 ·have hj:l.length - 1 - i < l.length:=by omega
  have hil:i < l.length:=by omega
  have ej:((l.length:Int) - 1 - i).toNat = l.length - 1 - i:=by omega
  have ej0:¬ ((l.length:Int) - 1 - i < 0):=by omega
  have gi:(encPs M)[i]? = some (encP (nth M i)):=encPs_get (by omega)
  have gj:(encPs M)[l.length - 1 - i]? = some (encP (nth M (l.length - 1 - i))):=encPs_get (by omega)
  have hS:=hR.step hM (by omega)
  have hset:((encPs M).set i (encP (nth M (l.length - 1 - i)))).set (l.length - 1 - i) (encP (nth M i)) = encPs ((M.set i (nth M (l.length - 1 - i))).set (l.length - 1 - i) (nth M i)):=by simp [encPs,List.map_set]
  have gi2:=(List.getElem?_eq_some_iff.1 gi).2
  have gj2:=(List.getElem?_eq_some_iff.1 gj).2
  have hne:i ≠ l.length - 1 - i:=by omega
  have hSl:((M.set i (nth M (l.length - 1 - i))).set (l.length - 1 - i) (nth M i)).length = l.length:=by simp [hM]
  generalize (M.set i (nth M (l.length - 1 - i))).set (l.length - 1 - i) (nth M i) = M2 at *
  have hp1:∀ p:Pt,(encP p).length = 6:=fun _=>rfl
  generalize encPs M = A at *
  generalize l.length - 1 - i = j at *
  generalize hq1:encP (nth M i) = q1 at *
  generalize hq2:encP (nth M j) = q2 at *
  have hl1:q1.length = 6:=by rw [← hq1]; rfl
  have hl2:q2.length = 6:=by rw [← hq2]; rfl
  have a1:List.take 6 q1 = q1:=List.take_of_length_le (by omega)
  have a2:List.take 6 q2 = q2:=List.take_of_length_le (by omega)
  have a3:List.drop 6 q1 = []:=List.drop_of_length_le (by omega)
  have a4:List.drop 6 q2 = []:=List.drop_of_length_le (by omega)
  simp (maxSteps:=999999) (disch:=first|exact {}|omega|simp) [Lw,Lm,Lt,Lo,Ln,allLen,hlt,ej,ej0,hj,hil,gi,gj,gi2,gj2,hML,hl1,hl2]
  (refine ⟨⟨(i + 1,M2),hSl,by simp; omega,hS⟩,by (simp; try omega), ?_⟩; constructor <;> (simp (maxSteps:=999999) (disch:=first|exact {}|omega|simp) [Lw,Lm,Lt,Lo,Ln,allLen,a1,a2,a3,a4,ej,ej0,hj,hil,gi,gj,gi2,gj2,hML,hl1,hl2,hset]) <;> (try omega))
 ·have hD:=hR.done hM hlt
  simp (maxSteps:=999999) (disch:=first|exact {}|omega|simp) [Lw,Lm,Lt,Lo,Ln,allLen,hlt,hD]
def nrmO (l:List Pt):Option (List Pt):=if l.all vP = true ∧ l.length ≤ 16 then (if polI (rot0 l) = true then some (rot0 l) else if polI (rot0 l.reverse) = true then some (rot0 l.reverse) else none) else none
theorem all_rev {l:List Pt} (h:∀ p ∈ l,PV p):∀ p ∈ l.reverse,PV p:=fun p hp=>h p (by simpa using hp)
theorem c231 (l:List Pt) (h:(l.length:Int) ≤ 1048576):PC E 231 [.i (.sl (encPs l))] [.own 6 (encPs ((nrmO l).getD [])),.i (.bool (nrmO l).isSome)]:=by
 refine law_start hE Proofs.Tryz.func231 rfl rfl Proofs.Tryz.ntmps231 (by kernel_rfl) (by simp) fun F w a hx hf=>?_
 by_cases hall:l.all vP = true
 rotate_left
 ·have hn:nrmO l = none:=by unfold nrmO; rw [if_neg fun e=>hall e.1]
  refine segEnd hE hx (Back.refl _ _) hf (by kernel_rfl) ?_
  simp (maxSteps:=999999) (disch:=first|exact {}|omega|simp) [Lw,Lm,Lt,Lo,Ln,allLen]
  refine CallK.of (c90 l (by omega)) (by first | exact .inl rfl | exact .inr (by simp)) (by simp) ?_
  simp (maxSteps:=999999) (disch:=first|exact {}|omega|simp) [Lw,Lm,Lt,Lo,Ln,allLen,hall,hn,encPs]
 by_cases h16:l.length ≤ 16
 rotate_left
 ·have hn:nrmO l = none:=by unfold nrmO; rw [if_neg fun e=>h16 e.2]
  have h16':(16:Int) < l.length:=by omega
  refine segEnd hE hx (Back.refl _ _) hf (by kernel_rfl) ?_
  simp (maxSteps:=999999) (disch:=first|exact {}|omega|simp) [Lw,Lm,Lt,Lo,Ln,allLen]
  refine CallK.of (c90 l (by omega)) (by first | exact .inl rfl | exact .inr (by simp)) (by simp) ?_
  simp (maxSteps:=999999) (disch:=first|exact {}|omega|simp) [Lw,Lm,Lt,Lo,Ln,allLen,hall,hn,h16',encPs]
 have h16':¬ (16:Int) < l.length:=by omega
 have hv:=allV hall
 have hrl:=rot0_len l
 have hrl2:=rot0_len l.reverse
 simp only [List.length_reverse] at hrl2
 have tR1:List.take (rot0 l).length (encPs (rot0 l)) = encPs (rot0 l):=List.take_of_length_le (by simp)
 have tR2:List.take (rot0 l.reverse).length (encPs (rot0 l.reverse)) = encPs (rot0 l.reverse):=List.take_of_length_le (by simp)
 refine seg hE 3 ⟨[(0,.i (.sl (encPs l))),(4,.i (.sl (encPs l.reverse)))],[]⟩ hx (Back.refl _ _) hf (by kernel_rfl) (by kernel_rfl) ?_ fun a w1 hf=>?_
 ·simp (maxSteps:=999999) (disch:=first|exact {}|omega|simp) [Lw,Lm,Lt,Lo,Ln,allLen,cutC]
  refine CallK.of (c90 l (by omega)) (by first | exact .inl rfl | exact .inr (by simp)) (by simp) ?_
  simp (maxSteps:=999999) (disch:=first|exact {}|omega|simp) [Lw,Lm,Lt,Lo,Ln,allLen,hall,h16']
  refine CallK.of (c299 l (by omega)) (by first | exact .inl rfl | exact .inr (by simp)) (by simp) ?_
  simp (maxSteps:=999999) (disch:=first|exact {}|omega|simp) [Lw,Lm,Lt,Lo,Ln,allLen]
  refine MutK.of (c300 l (by omega)) (by simp) (by simp) (by simp) (by simp) (by simp) ?_
  simp (maxSteps:=999999) (disch:=first|exact {}|omega|simp) [Lw,Lm,Lt,Lo,Ln,allLen]
  have tX:List.take l.length (encPs l.reverse) = encPs l.reverse:=List.take_of_length_le (by simp)
  exact ⟨by simp (maxSteps:=999999) (disch:=first|exact {}|omega|simp) [Lw,Lm,Lt,Lo,Ln,allLen,tX],by simp (maxSteps:=999999) (disch:=first|exact {}|omega|simp) [Lw,Lm,Lt,Lo,Ln,allLen],by simp (maxSteps:=999999) (disch:=first|exact {}|omega|simp) [Lw,Lm,Lt,Lo,Ln,allLen]⟩
 simp only [restN]
 refine segEnd hE hx (Back.refl _ _) hf (by kernel_rfl) ?_
 simp (maxSteps:=999999) (disch:=first|exact {}|omega|simp) [Lw,Lm,Lt,Lo,Ln,allLen]
 refine XL.by hE (ι:={ k:Nat // k ≤ 2 ∧ (0 < k → polI (rot0 l) = false) ∧ (1 < k → polI (rot0 l.reverse) = false) }) (fun k=>⟨[(22,.i (.sl [[.sl (encPs l)],[.sl (encPs l.reverse)]])),(23,.i (.int .i64 2)),(24,.i (.int .i64 k.1))],[]⟩)
  (fun k=>2 - k.1) ⟨0,by omega,fun h=>absurd h (by omega),fun h=>absurd h (by omega)⟩ ⟨by simp,by simp,by simp⟩ (by kernel_rfl) ?_
 rintro ⟨k,hk,hk1,hk2⟩
 have hcase:k = 0 ∨ k = 1 ∨ k = 2:=by omega
 rcases hcase with rfl | rfl | rfl
 ·simp (maxSteps:=999999) (disch:=first|exact {}|omega|simp) [Lw,Lm,Lt,Lo,Ln,allLen]
  refine CallK.of (c136 l hv (by decide) (by decide) (by omega)) (by first | exact .inl rfl | exact .inr (by simp)) (by simp) ?_
  simp (maxSteps:=999999) (disch:=first|exact {}|omega|simp) [Lw,Lm,Lt,Lo,Ln,allLen,tR1]
  refine CallK.of (c301 (rot0 l) (by omega)) (by first | exact .inl rfl | exact .inr (by simp)) (by simp) ?_
  simp (maxSteps:=999999) (disch:=first|exact {}|omega|simp) [Lw,Lm,Lt,Lo,Ln,allLen]
  by_cases hp:polI (rot0 l) = true
  ·have hn:nrmO l = some (rot0 l):=by unfold nrmO; rw [if_pos ⟨hall,h16⟩,if_pos hp]
   simp (maxSteps:=999999) (disch:=first|exact {}|omega|simp) [Lw,Lm,Lt,Lo,Ln,allLen,hp,hn,tR1,tR2]
  ·have hp':polI (rot0 l) = false:=by simpa using hp
   simp (maxSteps:=999999) (disch:=first|exact {}|omega|simp) [Lw,Lm,Lt,Lo,Ln,allLen,hp']
   (refine ⟨⟨1,by omega,fun _=>hp',fun h=>absurd h (by omega)⟩,by (simp; try omega), ?_⟩; constructor <;> (simp (maxSteps:=999999) (disch:=first|exact {}|omega|simp) [Lw,Lm,Lt,Lo,Ln,allLen]) <;> (try omega))
 ·have hp':=hk1 (by omega)
  simp (maxSteps:=999999) (disch:=first|exact {}|omega|simp) [Lw,Lm,Lt,Lo,Ln,allLen]
  refine CallK.of (c136 l.reverse (all_rev hv) (by decide) (by decide) (by simp; omega)) (by first | exact .inl rfl | exact .inr (by simp)) (by simp) ?_
  simp (maxSteps:=999999) (disch:=first|exact {}|omega|simp) [Lw,Lm,Lt,Lo,Ln,allLen,tR2]
  refine CallK.of (c301 (rot0 l.reverse) (by omega)) (by first | exact .inl rfl | exact .inr (by simp)) (by simp) ?_
  simp (maxSteps:=999999) (disch:=first|exact {}|omega|simp) [Lw,Lm,Lt,Lo,Ln,allLen]
  by_cases hp:polI (rot0 l.reverse) = true
  ·have hn:nrmO l = some (rot0 l.reverse):=by unfold nrmO; rw [if_pos ⟨hall,h16⟩,if_neg (by rw [hp']; simp),if_pos hp]
   simp (maxSteps:=999999) (disch:=first|exact {}|omega|simp) [Lw,Lm,Lt,Lo,Ln,allLen,hp,hn,tR1,tR2]
  ·have hp2:polI (rot0 l.reverse) = false:=by simpa using hp
   simp (maxSteps:=999999) (disch:=first|exact {}|omega|simp) [Lw,Lm,Lt,Lo,Ln,allLen,hp2]
   (refine ⟨⟨2,by omega,fun _=>hp',fun _=>hp2⟩,by (simp; try omega), ?_⟩; constructor <;> (simp (maxSteps:=999999) (disch:=first|exact {}|omega|simp) [Lw,Lm,Lt,Lo,Ln,allLen]) <;> (try omega))
 ·have hp1:=hk1 (by omega)
  have hp2:=hk2 (by omega)
  have hn:nrmO l = none:=by unfold nrmO; rw [if_pos ⟨hall,h16⟩,if_neg (by rw [hp1]; simp),if_neg (by rw [hp2]; simp)]
  simp (maxSteps:=999999) (disch:=first|exact {}|omega|simp) [Lw,Lm,Lt,Lo,Ln,allLen,hn,encPs]
end Go.Vai
namespace Go.Vai
def insF (l:List Pt) (p:Pt):Nat → Int
 | 0=>1
 | k + 1=>if ornt (nth l k) (nxt l k) p < insF l p k then ornt (nth l k) (nxt l k) p else insF l p k
theorem insF_range (l:List Pt) (p:Pt):∀ k,-1 ≤ insF l p k ∧ insF l p k ≤ 1
 | 0=>by simp [insF]
 | k + 1=>by
  have:=insF_range l p k
  have h:=ornt_range (nth l k) (nxt l k) p
  simp only [insF]
  split <;> omega
def insP (l:List Pt) (p:Pt):Int:=insF l p l.length
theorem c133 (l:List Pt) (p:Pt) (hv:∀ q ∈ l,PV q) (hp:PV p) (h:(l.length:Int) ≤ 1048576):PC E 133 [.i (.sl (encPs l)),.agg (encP p)] [.i (.int .i64 (insP l p))]:=by
 refine PC_start hE Proofs.Tryz.func133 rfl rfl Proofs.Tryz.ntmps133 (by kernel_rfl) (by kernel_rfl) (by simp) ?_
 simp (maxSteps:=999999) (disch:=first|exact {}|omega|simp) [Lw,Lm,Lt,Lo,Ln,allLen]
 refine XL.by hE (ι:={ k:Nat // k ≤ l.length }) (fun k=>⟨[(0,.i (.sl (encPs l))),(3,.ptr 3 0 0),(5,.i (.int .i64 (insF l p k.1))),(8,.i (.sl (encPs l))),(9,.i (.int .i64 l.length)),(10,.i (.int .i64 k.1))],[(3,⟨6,[encP p]⟩)]⟩)
  (fun k=>l.length - k.1) ⟨0,Nat.zero_le _⟩ ⟨by simp [insF],by simp [encP,encN],by simp⟩ (by kernel_rfl) ?_
 rintro ⟨k,hk⟩
 have hir:=insF_range l p k
 by_cases hlt:k < l.length
 ·have hmod:(k + 1) % l.length < l.length:=Nat.mod_lt _ (by omega)
  have eq2:(encPs l)[(k + 1) % l.length]? = some (encP (nxt l k)):=encPs_get hmod
  have hne:¬ l = []:=by rintro rfl; simp at hlt
  have hnl:¬ (l.length:Int) = 0:=by omega
  have rm:((k:Int) + 1).tmod (l.length:Int) = (((k + 1) % l.length:Nat):Int):=by
   rw [Int.tmod_eq_emod_of_nonneg (by omega)]; simp
  have hm0:¬ (((k:Int) + 1) % (l.length:Int) < 0):=by have:=Int.emod_nonneg ((k:Int) + 1) (b:=(l.length:Int)) (by omega); omega
  have hm1:(((k:Int) + 1) % (l.length:Int)).toNat = (k + 1) % l.length:=by
   have:((k:Int) + 1) % (l.length:Int) = (((k + 1) % l.length:Nat):Int):=by simp
   rw [this]; rfl
  have hq:PV (nxt l k):=hv _ (nth_mem hmod)
  have hpk:PV (nth l k):=hv _ (nth_mem hlt)
  have ho:=c232 (nth l k) (nxt l k) p hpk hq hp
  have hst:insF l p (k + 1) = if ornt (nth l k) (nxt l k) p < insF l p k then ornt (nth l k) (nxt l k) p else insF l p k:=rfl
  have g1:=encPs_get hlt
  have l6:∀ p:Pt,(encP p).length = 6:=fun _=>rfl
  generalize ornt (nth l k) (nxt l k) p = o at *
  generalize nth l k = a at *
  generalize nxt l k = b at *
  simp (maxSteps:=999999) (disch:=first|exact {}|omega|simp) [Lw,Lm,Lt,Lo,Ln,allLen,hlt,g1,hne,hnl,rm,hm0,hm1,hmod,eq2,encP,encN]
  refine CallK.of (ho) (by first | exact .inl rfl | exact .inr (by simp)) (by simp) ?_
  simp (maxSteps:=999999) (disch:=first|exact {}|omega|simp) [Lw,Lm,Lt,Lo,Ln,allLen]
  (refine ⟨⟨k + 1,by omega⟩,by (simp; try omega), ?_⟩; constructor <;> (simp (maxSteps:=999999) (disch:=first|exact {}|omega|simp) [Lw,Lm,Lt,Lo,Ln,allLen,hst,encP,encN]) <;> (try omega))
 ·obtain rfl:k = l.length:=by omega
  simp (maxSteps:=999999) (disch:=first|exact {}|omega|simp) [Lw,Lm,Lt,Lo,Ln,allLen,insP]
theorem c213 (l:List Pt) (p:Pt) (hv:∀ q ∈ l,PV q) (hp:PV p) (hs:∀ k,k < l.length → 0 ≤ dl l k) (h:(l.length:Int) ≤ 1048576):PC E 213 [.i (.sl (encPs l)),.i (.sl ((dls l l.length).map enc1)),.agg (encP p)] [.i (.int .i64 (insP l p))]:=by
 refine PC_start hE Proofs.Tryz.func213 rfl rfl Proofs.Tryz.ntmps213 (by kernel_rfl) (by kernel_rfl) (by simp) ?_
 simp (maxSteps:=999999) (disch:=first|exact {}|omega|simp) [Lw,Lm,Lt,Lo,Ln,allLen]
 refine XL.by hE (ι:={ k:Nat // k ≤ l.length }) (fun k=>⟨[(0,.i (.sl (encPs l))),(1,.i (.sl ((dls l l.length).map enc1))),(5,.ptr 5 0 0),(7,.i (.int .i64 (insF l p k.1))),(8,.i (.int .i64 k.1))],[(5,⟨6,[encP p]⟩)]⟩)
  (fun k=>l.length - k.1) ⟨0,Nat.zero_le _⟩ ⟨by simp [insF],by simp [encP,encN],by simp⟩ (by kernel_rfl) ?_
 rintro ⟨k,hk⟩
 have hir:=insF_range l p k
 by_cases hlt:k < l.length
 ·have hpk:PV (nth l k):=hv _ (nth_mem hlt)
  have hqk:PV (nxt l k):=hv _ (nth_mem (Nat.mod_lt _ (by omega)))
  have hdr:=dl_range l k
  have hd0:=hs k hlt
  have g2:((dls l l.length).map enc1)[k]? = some [.int .i64 (dl l k)]:=dls_get hlt
  have g1:=encPs_get hlt
  have hio:=in_or hpk.pk hqk.pk hp.pk (show 0 ≤ dirR (pminus (nxt l k) (nth l k)) from hd0)
  have hm:=hp.minus hpk
  have hdot:=c168 (dl l k + 4) (pminus p (nth l k)) hm (by decide) (by decide) (by omega) (by omega)
  have hnb:=(vec_PB (d:=(dl l k + 4) % 16) (by omega) (by omega)).dot hm
  have hst:insF l p (k + 1) = if ornt (nth l k) (nxt l k) p < insF l p k then ornt (nth l k) (nxt l k) p else insF l p k:=rfl
  have hsg:=c166 (ndot (vec ((dl l k + 4) % 16)) (pminus p (nth l k))) (hnb.i64 (by decide) (by decide)) (hnb.ne (by decide)).1 (hnb.ne (by decide)).2
  have hmin:=c165 p (nth l k) hp hpk (by decide) (by decide)
  rw [show nsign (ndot (vec ((dl l k + 4) % 16)) (pminus p (nth l k))) = ornt (nth l k) (nxt l k) p from hio] at hsg
  clear hio hnb
  generalize ndot (vec ((dl l k + 4) % 16)) (pminus p (nth l k)) = nd at *
  generalize ornt (nth l k) (nxt l k) p = o at *
  generalize pminus p (nth l k) = mm at *
  generalize (dls l l.length).map enc1 = D at *
  generalize dl l k = d at *
  obtain ⟨hD1,hD2⟩:=List.getElem?_eq_some_iff.1 g2
  simp (maxSteps:=999999) (disch:=first|exact {}|omega|simp) [Lw,Lm,Lt,Lo,Ln,allLen,hlt,g1,g2,hD1,hD2,encP,encN]
  refine CallK.of (hmin) (by first | exact .inl rfl | exact .inr (by simp)) (by simp) ?_
  simp (maxSteps:=999999) (disch:=first|exact {}|omega|simp) [Lw,Lm,Lt,Lo,Ln,allLen]
  refine CallK.of (hdot) (by first | exact .inl rfl | exact .inr (by simp)) (by simp) ?_
  simp (maxSteps:=999999) (disch:=first|exact {}|omega|simp) [Lw,Lm,Lt,Lo,Ln,allLen]
  refine CallK.of (hsg) (by first | exact .inl rfl | exact .inr (by simp)) (by simp) ?_
  simp (maxSteps:=999999) (disch:=first|exact {}|omega|simp) [Lw,Lm,Lt,Lo,Ln,allLen]
  (first | refine Gd.dec (fun h4=>?_) (fun h4=>?_) | refine Gd.intro (fun h4=>?_) (fun h4=>?_)) <;> simp (maxSteps:=999999) (disch:=first|exact {}|omega|simp) [Lw,Lm,Lt,Lo,Ln,allLen,h4]
  ·(refine ⟨⟨k + 1,by omega⟩,by (simp; try omega), ?_⟩; constructor <;> (simp (maxSteps:=999999) (disch:=first|exact {}|omega|simp) [Lw,Lm,Lt,Lo,Ln,allLen,hst,h4,encP,encN]) <;> (try omega))
  ·(refine ⟨⟨k + 1,by omega⟩,by (simp; try omega), ?_⟩; constructor <;> (simp (maxSteps:=999999) (disch:=first|exact {}|omega|simp) [Lw,Lm,Lt,Lo,Ln,allLen,hst,h4,encP,encN]) <;> (try omega))
 ·obtain rfl:k = l.length:=by omega
  simp (maxSteps:=999999) (disch:=first|exact {}|omega|simp) [Lw,Lm,Lt,Lo,Ln,allLen,insP]
def inC (ps paper:List Pt) (c:Cr):Bool:=decide (c.k = 1) || (decide (0 ≤ insP paper (pI ps c.a)) && (decide (0 ≤ insP paper (pI ps c.b)) && crossB paper (pI ps c.a) (pI ps c.b)))
def insAll (ps paper:List Pt) (cs:List Cr):Bool:=cs.all (inC ps paper)
theorem insAll_no {ps paper:List Pt} {cs:List Cr} {k:Nat} (hk:k < cs.length) (h:inC ps paper (getK cs k) = false):insAll ps paper cs = false:=by
 unfold insAll
 rw [List.all_eq_false]
 exact ⟨_,getK_mem hk,by rw [h]; simp⟩
theorem insAll_yes {ps paper:List Pt} {cs:List Cr} (h:∀ k,k < cs.length → inC ps paper (getK cs k) = true):insAll ps paper cs = true:=by
 unfold insAll
 rw [List.all_eq_true]
 intro c hc
 obtain ⟨i,hi,rfl⟩:=List.getElem_of_mem hc
 rw [← (getK_get hi).2]; exact h i hi
theorem c125 (ps:List Pt) (cs:List Cr) (paper:List Pt) (hv:∀ p ∈ ps,vP p = true) (hcin:∀ c ∈ cs,Cin ps.length c) (hpo:polI paper = true) (hc:(cs.length:Int) ≤ 1048576) :
  PC E 125 [.i (.ptr (encPa ps cs)),.i (.sl (cs.map (sgC ps))),.i (.sl (encPs paper))] [.i (.bool (insAll ps paper cs))]:=by
 obtain ⟨hPo,hn3,hn16,hpv⟩:=polI_poly hpo
 have hvp:∀ p ∈ paper,PV p:=fun p hp=>vP_bound (hpv p hp)
 have hsd:∀ k,k < paper.length → 0 ≤ dl paper k:=hPo.d
 have hso:sidesOk paper = true:=sides_yes hsd
 refine PC_start hE Proofs.Tryz.func125 rfl rfl Proofs.Tryz.ntmps125 (by kernel_rfl) (by kernel_rfl) (by simp) ?_
 simp (maxSteps:=999999) (disch:=first|exact {}|omega|simp) [Lw,Lm,Lt,Lo,Ln,allLen]
 refine CallK.of ((c211 paper (by omega)).imm) (by first | exact .inl rfl | exact .inr (by simp)) (by simp) ?_
 simp (maxSteps:=999999) (disch:=first|exact {}|omega|simp) [Lw,Lm,Lt,Lo,Ln,allLen]
 refine CallK.of (c212 paper hvp (by decide) (by decide) (by omega)) (by first | exact .inl rfl | exact .inr (by simp)) (by simp) ?_
 have htd:List.take paper.length (List.map enc1 (dls paper paper.length)) = List.map enc1 (dls paper paper.length):=List.take_of_length_le (by simp)
 simp (maxSteps:=999999) (disch:=first|exact {}|omega|simp) [Lw,Lm,Lt,Lo,Ln,allLen,hso]
 refine XL.by hE (ι:={ k:Nat // k ≤ cs.length ∧ ∀ j,j < k → inC ps paper (getK cs j) = true }) (fun k=>⟨[(0,.i (.ptr (encPa ps cs))),(1,.i (.sl (cs.map (sgC ps)))),(7,.i (.sl (encPs paper))),(8,.i (.sl ((dls paper paper.length).map enc1))),(10,.i (.int .i64 k.1))],[]⟩)
  (fun k=>cs.length - k.1) ⟨0,Nat.zero_le _,fun j hj=>absurd hj (Nat.not_lt_zero _)⟩ ⟨by simp [htd],by simp,by simp⟩ (by kernel_rfl) ?_
 rintro ⟨k,hk,hin⟩
 by_cases hlt:k < cs.length
 ·obtain ⟨hg,he⟩:=getK_get hlt
  have hci:=hcin _ (getK_mem hlt)
  have hsg:(cs.map (sgC ps))[k]? = some (sgC ps (getK cs k)):=by rw [he]; simp [hlt]
  have hno:=insAll_no (ps:=ps) (paper:=paper) hlt
  have hyes:inC ps paper (getK cs k) = true → ∀ j,j < k + 1 → inC ps paper (getK cs j) = true:=fun hh j hj=>by
   by_cases e:j = k
   ·subst e; exact hh
   ·exact hin j (by omega)
  clear he
  generalize getK cs k = c at *
  obtain ⟨a0,ab,bn⟩:=hci
  have hva:vP (pI ps c.a) = true:=hv _ (nth_mem (by omega))
  have hvb:vP (pI ps c.b) = true:=hv _ (nth_mem (by omega))
  have i1:=c213 paper (pI ps c.a) hvp (vP_bound hva) hsd (by omega)
  have i2:=c213 paper (pI ps c.b) hvp (vP_bound hvb) hsd (by omega)
  have i3:=c227 paper (pI ps c.a) (pI ps c.b) (crs_of hpo hva hvb)
  have hdef:inC ps paper c = (decide (c.k = 1) || (decide (0 ≤ insP paper (pI ps c.a)) && (decide (0 ≤ insP paper (pI ps c.b)) && crossB paper (pI ps c.a) (pI ps c.b)))):=rfl
  have hst6:∀ a b:Pt,List.take 6 (encS a b) = encP a:=take6
  have hdr6:∀ a b:Pt,List.take 6 (List.drop 6 (encS a b)) = encP b:=drop6
  have hsl:sgC ps c = encS (pI ps c.a) (pI ps c.b):=rfl
  obtain ⟨hS1,hS2⟩:=List.getElem?_eq_some_iff.1 hsg
  rw [hsl] at hsg hS2
  generalize cs.map (sgC ps) = SG at *
  generalize (dls paper paper.length).map enc1 = D at *
  generalize pI ps c.a = pa at *
  generalize pI ps c.b = pb at *
  generalize insP paper pa = ia at *
  generalize insP paper pb = ib at *
  generalize crossB paper pa pb = cb at *
  by_cases hk1:c.k = 1
  ·have:inC ps paper c = true:=by rw [hdef,decide_eq_true hk1]; rfl
   simp (maxSteps:=999999) (disch:=first|exact {}|omega|simp) [Lw,Lm,Lt,Lo,Ln,allLen,hlt,hg,encK,hk1,hS1,encPa]
   (refine ⟨⟨k + 1,by omega,hyes this⟩,by (simp; try omega), ?_⟩; constructor <;> (simp (maxSteps:=999999) (disch:=first|exact {}|omega|simp) [Lw,Lm,Lt,Lo,Ln,allLen,encPa]) <;> (try omega))
  ·simp (maxSteps:=999999) (disch:=first|exact {}|omega|simp) [Lw,Lm,Lt,Lo,Ln,allLen,hlt,hg,encK,hk1,hsg,hS1,hS2,hst6,hdr6,encPa]
   refine CallK.of (i1) (by first | exact .inl rfl | exact .inr (by simp)) (by simp) ?_
   simp (maxSteps:=999999) (disch:=first|exact {}|omega|simp) [Lw,Lm,Lt,Lo,Ln,allLen,hlt,hg,encK,hk1,hsg,hS1,hS2,hst6,hdr6,encPa]
   by_cases h1:ia < 0
   ·have:inC ps paper c = false:=by rw [hdef,decide_eq_false hk1,decide_eq_false (show ¬ 0 ≤ ia by omega)]; rfl
    simp (maxSteps:=999999) (disch:=first|exact {}|omega|simp) [Lw,Lm,Lt,Lo,Ln,allLen,h1,hno this]
   ·simp (maxSteps:=999999) (disch:=first|exact {}|omega|simp) [Lw,Lm,Lt,Lo,Ln,allLen,h1,hlt,hg,encK,hk1,hsg,hS1,hS2,hst6,hdr6,encPa]
    refine CallK.of (i2) (by first | exact .inl rfl | exact .inr (by simp)) (by simp) ?_
    simp (maxSteps:=999999) (disch:=first|exact {}|omega|simp) [Lw,Lm,Lt,Lo,Ln,allLen,hlt,hg,encK,hk1,hsg,hS1,hS2,hst6,hdr6,encPa]
    by_cases h2:ib < 0
    ·have:inC ps paper c = false:=by rw [hdef,decide_eq_false hk1,decide_eq_false (show ¬ 0 ≤ ib by omega)]; simp
     simp (maxSteps:=999999) (disch:=first|exact {}|omega|simp) [Lw,Lm,Lt,Lo,Ln,allLen,h2,hno this]
    ·simp (maxSteps:=999999) (disch:=first|exact {}|omega|simp) [Lw,Lm,Lt,Lo,Ln,allLen,h2,hlt,hg,encK,hk1,hsg,hS1,hS2,hst6,hdr6,encPa]
     refine CallK.of (i3) (by first | exact .inl rfl | exact .inr (by simp)) (by simp) ?_
     simp (maxSteps:=999999) (disch:=first|exact {}|omega|simp) [Lw,Lm,Lt,Lo,Ln,allLen]
     cases cb
     ·have:inC ps paper c = false:=by rw [hdef,decide_eq_false hk1]; simp
      simp (maxSteps:=999999) (disch:=first|exact {}|omega|simp) [Lw,Lm,Lt,Lo,Ln,allLen,hno this]
     ·have:inC ps paper c = true:=by rw [hdef,decide_eq_true (show 0 ≤ ia by omega),decide_eq_true (show 0 ≤ ib by omega)]; simp
      simp (maxSteps:=999999) (disch:=first|exact {}|omega|simp) [Lw,Lm,Lt,Lo,Ln,allLen]
      (refine ⟨⟨k + 1,by omega,hyes this⟩,by (simp; try omega), ?_⟩; constructor <;> (simp (maxSteps:=999999) (disch:=first|exact {}|omega|simp) [Lw,Lm,Lt,Lo,Ln,allLen,encPa]) <;> (try omega))
 ·obtain rfl:k = cs.length:=by omega
  simp (maxSteps:=999999) (disch:=first|exact {}|omega|simp) [Lw,Lm,Lt,Lo,Ln,allLen,insAll_yes hin]
end Go.Vai
