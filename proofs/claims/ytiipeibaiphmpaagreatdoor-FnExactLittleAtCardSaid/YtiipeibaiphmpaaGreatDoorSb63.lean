/- Texts of this claim: Zw20, Zw21, Zw22, Zw23. -/
import Derived.Test.YtiipeibaiphmpaaGreatDoorSb62
import Derived.Test.YtiipeibaiphmpaaGreatDoorSb74
import Derived.Test.YtiipeibaiphmpaaGreatDoorSb53
set_option linter.unusedVariables false
set_option linter.unusedSimpArgs false
set_option maxHeartbeats 8000000
set_option maxRecDepth 20000
namespace Go.Vai
theorem c199 (c:Cr) (k:Int) (h0:0 ≤ c.a) (h1:c.a ≤ 1048576) (h2:0 ≤ c.b) (h3:c.b ≤ 1048576) (h4:0 ≤ k) (h5:k ≤ 1048576):PC E 199 [.agg (encK c),.i (.int .i64 k)] [.i (.int .i64 (c.a + c.b - k))]:=by
 refine zP hE Proofs.Tryz.func199 Proofs.Tryz.ntmps199 rfl rfl ?_
 simp (maxSteps:=999999) (disch:=first|exact {}|omega|simp) [zS,encK]
structure AtK (ps:List Pt) (cs:List Cr) (k:Nat) (i:Nat):Prop where
 ik:i < cs.length
 k1:k < ps.length
 l40:ps.length ≤ 40
 l70:cs.length ≤ 70
 a0:0 ≤ (getK cs i).a
 ab:(getK cs i).a < (getK cs i).b
 bn:(getK cs i).b < ps.length
 o0:0 ≤ (getK cs i).a + (getK cs i).b - k
 o1:(getK cs i).a + (getK cs i).b - k < ps.length
 pk:PV (nth ps k)
 po:PV (nth ps ((getK cs i).a + (getK cs i).b - k).toNat)
 key:keyA ps cs k i = dirR (pminus (nth ps ((getK cs i).a + (getK cs i).b - k).toNat) (nth ps k))
theorem atK {ps:List Pt} {cs:List Cr} (hv:vB ps cs = true) {k:Nat} (h1:k < ps.length) {i:Nat} (hi:i < cs.length) (hb:atB cs k i = true):AtK ps cs k i:=by
 obtain ⟨hnm,hvp,g40,g70⟩:=vB_facts hv
 have hcin:=nmsOk_cin hnm
 obtain ⟨a0,ab,bn⟩:=hcin _ (getK_mem (cs:=cs) hi)
 have hpv:∀ p ∈ ps,PV p:=fun p hp=>vP_bound (hvp p hp)
 unfold atB at hb
 rw [Bool.or_eq_true,decide_eq_true_eq,decide_eq_true_eq] at hb
 refine ⟨hi,h1,g40,g70,a0,ab,bn,by omega,by omega,hpv _ (nth_mem h1),hpv _ (nth_mem (by omega)), ?_⟩
 unfold keyA awayR pI
 simp
theorem AtK.un {ps:List Pt} {cs:List Cr} {k i:Nat} (H:AtK ps cs k i):∃ u:Nat,(getK cs i).a + (getK cs i).b - (k:Int) = u ∧ u < ps.length ∧ PV (nth ps u) ∧ keyA ps cs k i = dirR (pminus (nth ps u) (nth ps k)):=by
 obtain ⟨hi,h1,g40,g70,a0,ab,bn,o0,o1,pk,po,key⟩:=H
 refine ⟨((getK cs i).a + (getK cs i).b - (k:Int)).toNat,by omega,by omega,po,key⟩
theorem c114 {ps:List Pt} {cs:List Cr} {k i:Nat} (H:AtK ps cs k i):PC E 114 [.agg (encPa ps cs),.i (.int .i64 i),.i (.int .i64 k)] [.i (.int .i64 (keyA ps cs k i))]:=by
 obtain ⟨u,hu,hul,pu,key⟩:=H.un
 obtain ⟨hi,h1,g40,g70,a0,ab,bn,o0,o1,pk,-,-⟩:=H
 rw [key]
 obtain ⟨hg,-⟩:=getK_get hi
 have g1:=encPs_get h1
 have g2:=encPs_get hul
 generalize getK cs i = c at *
 have hcx:=c199 c k a0 (by omega) (by omega) (by omega) (by omega) (by omega)
 rw [hu] at hcx
 generalize nth ps k = x at *
 generalize nth ps u = y at *
 refine zP hE Proofs.Tryz.func114 Proofs.Tryz.ntmps114 rfl rfl ?_
 simp (maxSteps:=999999) (disch:=first|exact {}|omega|simp) [zS,encPa,hg,hi,g1,h1]
 refine zC (hcx) ?_
 simp (maxSteps:=999999) (disch:=first|exact {}|omega|simp) [zS,encPa,g1,g2,h1,hul]
 refine zC (c141 x y pu pk (by decide) (by decide)) ?_
 simp (maxSteps:=999999) (disch:=first|exact {}|omega|simp) [zS]
theorem c112 {ps:List Pt} {cs:List Cr} {k i j:Nat} (H:AtK ps cs k i) (H':AtK ps cs k j) :
  PC E 112 [.i (.int .i64 i),.i (.int .i64 j),.i (.ptr (encPa ps cs)),.i (.ptr [.int .i64 k])] [.i (.int .i64 (cmpI (keyA ps cs k i) (keyA ps cs k j)))]:=by
 refine zP hE Proofs.Tryz.func112 Proofs.Tryz.ntmps112 rfl rfl ?_
 simp (maxSteps:=999999) (disch:=first|exact {}|omega|simp) [zS,encPa]
 refine zC (c114 H) ?_
 simp (maxSteps:=999999) (disch:=first|exact {}|omega|simp) [zS,encPa]
 refine zC (c114 H') ?_
 simp (maxSteps:=999999) (disch:=first|exact {}|omega|simp) [zS]
 refine zC (c113 (keyA ps cs k i) (keyA ps cs k j)) ?_
 simp (maxSteps:=999999) (disch:=first|exact {}|omega|simp) [zS]
theorem c111 {ps:List Pt} {cs:List Cr} (hv:vB ps cs = true) {k:Nat} (hk:k < ps.length) :
  PM E 111 [.sl ⟨1,(atI cs k cs.length).map encI⟩,.i (.i (.fn 112 [.ptr (encPa ps cs),.ptr [.int .i64 k]]))] [⟨1,(atS ps cs k cs.length).map encI⟩] []:=by
 have hl:=atI_len cs k cs.length
 obtain ⟨-,-,-,h70⟩:=vB_facts hv
 refine PM_sort (E:=E) (ρ:=sortL_ren) sortL (by kernel_rfl) (by kernel_rfl) (keyA ps cs k) (atI_ne hv hk) (by omega) (fun args w=>?_) (fun x hx y hy=>?_) (atS_len ps cs k cs.length) (fun m h1 h2=>atS_one hv h1 h2)
 ·exact Go.Proofs.enters_of Proofs.Tryz.func112 (by kernel_rfl) rfl args w
 ·obtain ⟨i,hi,rfl,hb⟩:=atI_mem hx
  obtain ⟨j,hj,rfl,hb'⟩:=atI_mem hy
  exact c112 (atK hv hk hi hb) (atK hv hk hj hb')
noncomputable def E2:Env:={ E with M:=111 :: E.M }
theorem hE2:E2.Ok:=⟨fun t i h=>hE.ty t i h,hE.many⟩
@[simp] theorem E2t:E2.τ = E.τ:=rfl
@[simp] theorem E2k (t:TypeId):tkOf E2 t = tkOf E t:=rfl
@[simp] theorem E2p:E2.P = E.P:=rfl
@[simp] theorem E2n:E2.N = E.N:=rfl
@[simp] theorem E2g:E2.G = E.G:=rfl
theorem PC.of2 {f:FuncId} {a:List AV} {r:List RV} (h:PC E2 f a r):PC E f a r:=⟨h.goes,h.run⟩
theorem PM.to2 {f:FuncId} {a:List MA} {o:List Obj} {r:List RV} (h:PM E f a o r):PM E2 f a o r:=⟨h.goes,h.lens,h.run⟩
theorem c51 {ps:List Pt} {cs:List Cr} (hv:vB ps cs = true) {k:Nat} (hk:k < ps.length):PC E 51 [.agg (encPa ps cs),.i (.int .i64 k)] [.own 1 ((atS ps cs k cs.length).map encI)]:=by
 obtain ⟨-,-,h40,h70⟩:=vB_facts hv
 have hS:=(c111 hv hk).to2
 unfold encPa at hS
 have hSl:=atS_len ps cs k cs.length
 refine PC.of2 ?_
 refine PC_start hE2 Proofs.Tryz.func51 rfl rfl Proofs.Tryz.ntmps51 (by kernel_rfl) (by kernel_rfl) (by simp) ?_
 simp (maxSteps:=999999) (disch:=first|exact {}|omega|simp) [zS,encPa]
 refine XL.by hE2 (ι:={ n:Nat // n ≤ cs.length }) (fun n=>⟨[(2,.ptr 2 0 0),(3,.ptr 3 0 0),(5,.own 29 0 (atI cs k n.1).length),(9,.i (.sl (cs.map encK))),(10,.i (.int .i64 cs.length)),(11,.i (.int .i64 n.1))],[(2,⟨2,[encPa ps cs]⟩),(3,⟨1,[[.int .i64 k]]⟩),(29,⟨1,(atI cs k n.1).map encI⟩)]⟩)
  (fun n=>cs.length - n.1) ⟨0,Nat.zero_le _⟩ ⟨by simp [atI],by simp [atI,encPa],by simp⟩ (by kernel_rfl) ?_
 rintro ⟨n,hn⟩
 have hil:=atI_len cs k n
 by_cases hlt:n < cs.length
 ·obtain ⟨hg,-⟩:=getK_get hlt
  have hst:atI cs k (n + 1) = atI cs k n ++ if atB cs k n = true then [(n:Int)] else []:=rfl
  have hat:atB cs k n = (decide ((getK cs n).a = k) || decide ((getK cs n).b = k)):=rfl
  generalize getK cs n = c at *
  have tX:List.take (atI cs k n).length ((atI cs k n).map encI) = (atI cs k n).map encI:=List.take_of_length_le (by simp)
  simp (maxSteps:=999999) (disch:=first|exact {}|omega|simp) [zS,hlt,hg,encK,encPa]
  have go:∀ b:Bool,(decide (c.a = (k:Int)) || decide (c.b = (k:Int))) = b → atI cs k (n + 1) = atI cs k n ++ if b = true then [(n:Int)] else []:=fun b hb=>by rw [hst,hat,hb]
  (first | refine Gd.dec (fun h1=>?_) (fun h1=>?_) | refine Gd.intro (fun h1=>?_) (fun h1=>?_)) <;> simp (maxSteps:=999999) (disch:=first|exact {}|omega|simp) [zS,h1]
  ·have hst2:=go true (by simp [h1])
   rw [if_pos rfl] at hst2
   (refine ⟨⟨n + 1,by omega⟩,by (simp; try omega), ?_⟩; constructor <;> (simp (maxSteps:=999999) (disch:=first|exact {}|omega|simp) [zS,hst2,encPa,encI,tX]) <;> (try omega))
  ·(first | refine Gd.dec (fun h2=>?_) (fun h2=>?_) | refine Gd.intro (fun h2=>?_) (fun h2=>?_)) <;> simp (maxSteps:=999999) (disch:=first|exact {}|omega|simp) [zS,h2]
   ·have hst2:=go true (by simp [h2])
    rw [if_pos rfl] at hst2
    (refine ⟨⟨n + 1,by omega⟩,by (simp; try omega), ?_⟩; constructor <;> (simp (maxSteps:=999999) (disch:=first|exact {}|omega|simp) [zS,hst2,encPa,encI,tX]) <;> (try omega))
   ·have hst2:=go false (by simp [h1,h2])
    rw [if_neg (by simp),List.append_nil] at hst2
    (refine ⟨⟨n + 1,by omega⟩,by (simp; try omega), ?_⟩; constructor <;> (simp (maxSteps:=999999) (disch:=first|exact {}|omega|simp) [zS,hst2,encPa]) <;> (try omega))
 ·obtain rfl:n = cs.length:=by omega
  simp (maxSteps:=999999) (disch:=first|exact {}|omega|simp) [zS,hlt,encPa]
  refine MutK.of (hS) (by simp) (by simp) (by simp) (by simp) (by simp) ?_
  have tS:List.take (atS ps cs k cs.length).length ((atS ps cs k cs.length).map encI) = (atS ps cs k cs.length).map encI:=List.take_of_length_le (by simp)
  rw [← hSl]
  simp (maxSteps:=999999) (disch:=first|exact {}|omega|simp) [zS,tS]
end Go.Vai
namespace Go.Vai
theorem memI_len (l:List Int):(∀ x ∈ l.map encI,x.length = 1) = True:=by
 simp [encI]
theorem c98 (l:List Int) (a:Nat) (n:Int) (ha:a ≤ l.length) (h:(l.length:Int) ≤ 1048575):PC E 98 [.i (.sl (l.map encI)),.i (.int .i64 a),.i (.int .i64 n)] [.own 1 ((l.take a ++ n :: l.drop a).map encI)]:=by
 have t1:(l.map encI).take a = (l.take a).map encI:=by simp
 have t2:(l.map encI).drop a = (l.drop a).map encI:=by simp
 have t3:(l.take a ++ n :: l.drop a).map encI = (l.take a).map encI ++ ([.int .i64 n] :: (l.drop a).map encI):=by simp [encI]
 have l1:(l.map encI).length = l.length:=by simp
 have hm:=memI_len l
 have hmA:=memI_len (l.take a)
 have hmB:=memI_len (l.drop a)
 have l2:((l.take a).map encI).length = a:=by simp; omega
 have l3:((l.drop a).map encI).length = l.length - a:=by simp
 rw [t3]
 generalize (l.take a).map encI = A at *
 generalize (l.drop a).map encI = B at *
 generalize l.map encI = L at *
 have tB:List.take (l.length - a) B = B:=List.take_of_length_le (by omega)
 have tA:List.take a A = A:=List.take_of_length_le (by omega)
 have tA1:List.take (a + 1) (A ++ [[.int .i64 n]]) = A ++ [[.int .i64 n]]:=List.take_of_length_le (by simp; omega)
 have tAB:List.take (a + 1 + (l.length - a)) (A ++ [[.int .i64 n]] ++ B) = A ++ [[.int .i64 n]] ++ B:=List.take_of_length_le (by simp; omega)
 refine zP hE Proofs.Tryz.func98 Proofs.Tryz.ntmps98 rfl rfl ?_
 simp (maxSteps:=999999) (disch:=first|exact {}|omega|simp) [zS,l1,ha,t1,t2,l2,l3,hm,hmA,hmB,tB,tA,tA1,tAB]
 exact (List.take_of_length_le (by simp; omega)).symm
theorem insB_map (key:Int → Int) (x:Int) (l:List Int):(insB key x l).map key = (l.map key).take (atN key x l) ++ key x :: (l.map key).drop (atN key x l):=by
 rw [insB_at]; simp
def atD (ps:List Pt) (cs:List Cr) (k:Int) (key:Int → Int) (n:Nat):List Int:=(atS ps cs k n).map key
theorem c46 {ps:List Pt} {cs:List Cr} (hv:vB ps cs = true) {k:Nat} (hk:k < ps.length):PC E 46 [.i (.ptr (encPa ps cs)),.i (.int .i64 k)] [.i (.sl ((atS ps cs k cs.length).map encI))]:=by
 obtain ⟨-,-,h40,h70⟩:=vB_facts hv
 generalize hK:keyA ps cs k = key
 refine zP hE Proofs.Tryz.func46 Proofs.Tryz.ntmps46 rfl rfl ?_
 simp (maxSteps:=999999) (disch:=first|exact {}|omega|simp) [zS]
 refine XL.by hE (ι:={ n:Nat // n ≤ cs.length }) (fun n=>⟨[(0,.i (.ptr (encPa ps cs))),(1,.i (.int .i64 k)),(5,.i (.sl ((atS ps cs k n.1).map encI))),(6,.i (.sl ((atD ps cs k key n.1).map encI))),(7,.i (.int .i64 n.1))],[]⟩)
  (fun n=>cs.length - n.1) ⟨0,Nat.zero_le _⟩ ⟨by simp [atS,atD],by simp,by simp⟩ (by kernel_rfl) ?_
 rintro ⟨n,hn⟩
 have hil:(atS ps cs k n).length ≤ n:=by rw [atS_len]; exact atI_len cs k n
 by_cases hlt:n < cs.length
 rotate_left
 ·obtain rfl:n = cs.length:=by omega
  simp (maxSteps:=999999) (disch:=first|exact {}|omega|simp) [zS,hlt,encPa]
 obtain ⟨hg,-⟩:=getK_get hlt
 have hst:atS ps cs k (n + 1) = if atB cs k n = true then insB (keyA ps cs k) n (atS ps cs k n) else atS ps cs k n:=rfl
 have hat:atB cs k n = (decide ((getK cs n).a = k) || decide ((getK cs n).b = k)):=rfl
 by_cases hb:atB cs k n = true
 rotate_left
 ·have hb':atB cs k n = false:=by simpa using hb
  rw [if_neg hb] at hst
  have hst3:atD ps cs k key (n + 1) = atD ps cs k key n:=by unfold atD; rw [hst]
  rw [hb'] at hat
  generalize getK cs n = c at *
  have hat2:¬ c.a = k ∧ ¬ c.b = k:=by simpa using hat.symm
  simp (maxSteps:=999999) (disch:=first|exact {}|omega|simp) [zS,hlt,hg,encK,encPa,hat2.1,hat2.2]
  (refine ⟨⟨n + 1,by omega⟩,by (simp; try omega), ?_⟩; constructor <;> (simp (maxSteps:=999999) (disch:=first|exact {}|omega|simp) [zS,hst,hst3,encPa]) <;> (try omega))
 obtain ⟨u,hu,hul,po,key1⟩:=(atK hv hk hlt hb).un
 obtain ⟨-,h1,-,-,a0,ab,bn,o0,o1,pk,-,-⟩:=atK hv hk hlt hb
 rw [if_pos hb,hK] at hst
 rw [hK] at key1
 rw [hb] at hat
 have g1:=encPs_get hk
 have g2:=encPs_get hul
 have hins:=insB_at key n (atS ps cs k n)
 have hinm:=insB_map key n (atS ps cs k n)
 have hD1:atD ps cs k key (n + 1) = (atS ps cs k (n + 1)).map key:=rfl
 have hD0:atD ps cs k key n = (atS ps cs k n).map key:=rfl
 rw [← hst] at hins hinm
 rw [← hD1,← hD0] at hinm
 have hle:=atN_le key n (atS ps cs k n)
 have hlt1:=atN_lt key n (atS ps cs k n)
 have hstp:=atN_stop key n (atS ps cs k n)
 clear hK hst
 generalize hDe:atD ps cs k key (n + 1) = D' at *
 generalize atD ps cs k key n = D at *
 generalize hLe:atS ps cs k (n + 1) = L' at *
 generalize atS ps cs k n = L at *
 generalize getK cs n = c at *
 have hor:c.a = k ∨ c.b = k:=by simpa using hat.symm
 have hcx:=c97 c k a0 (by omega) (by omega) (by omega) (by omega) (by omega)
 rw [hu] at hcx
 have hsg:=c64 (nth ps k) (nth ps u) pk po
 generalize hpa:nth ps k = pa at *
 generalize hpb:nth ps u = pb at *
 have hin1:=c98 L (atN key n L) n hle (by omega)
 have hml:D.length = L.length:=by rw [hD0]; simp
 have hin2:=c98 D (atN key n L) (key n) (by omega) (by omega)
 rw [← hins] at hin1
 rw [← hinm] at hin2
 have hml2:(D.map encI).length = L.length:=by simp [hml]
 have hLml:(L.map encI).length = L.length:=by simp
 have hL'1:L'.length = L.length + 1:=by rw [hins]; simp; omega
 have tL':List.take L'.length (L'.map encI) = L'.map encI:=List.take_of_length_le (by simp)
 have hKl:D'.length = L'.length:=by rw [hD1]; simp
 have tK':List.take L'.length (D'.map encI) = D'.map encI:=List.take_of_length_le (by simp [hKl])
 have hgk:∀ q,q < L.length → (D.map encI)[q]? = some [.int .i64 (key (nthI L q))]:=fun q hq=>by
  rw [hD0,List.getElem?_map,List.getElem?_map,List.getElem?_eq_getElem hq,nthI_eq hq]; rfl
 have hb1:∀ q,q < atN key n L → key (nthI L q) < key n:=fun q hq=>by rw [nthI_eq (by omega)]; exact hlt1 q (by omega) hq
 have hb2:atN key n L < L.length → ¬ key (nthI L (atN key n L)) < key n:=fun hq=>by rw [nthI_eq hq]; exact hstp hq
 have hdir:encS pa pb = encP pa ++ (encP pb ++ [.int .i64 (key n)]):=by rw [key1]; rfl
 have hc2:((c.a = k) = True ∧ True) ∨ ((c.a = k) = False ∧ (c.b = k) = True):=by
  by_cases e:c.a = k
  ·exact .inl ⟨eq_true e,trivial⟩
  ·exact .inr ⟨eq_false e,eq_true (by omega)⟩
 clear hlt1 hstp hins hinm hor hat hD0 hD1
 generalize atN key n L = B at *
 have hS12:(encS pa pb)[12]? = some (.int .i64 (key n)):=by rw [hdir]; rfl
 have hSl:(encS pa pb).length = 13:=rfl
 have hS12':List.take 1 (List.drop 12 (encS pa pb)) = [.int .i64 (key n)]:=by rw [hdir]; rfl
 clear hdir key1
 generalize encS pa pb = S at *
 rcases hc2 with ⟨e,e'⟩ | ⟨e,e'⟩
 ·simp (maxSteps:=999999) (disch:=first|exact {}|omega|simp) [zS,hlt,hg,encK,encPa,e,e',g1,hk]
  refine zC (hcx) ?_
  simp (maxSteps:=999999) (disch:=first|exact {}|omega|simp) [zS,encPa,g1,g2,hk,hul]
  refine zC (hsg) ?_
  simp (maxSteps:=999999) (disch:=first|exact {}|omega|simp) [zS,hSl]
  refine XL.by hE (ι:={ q:Nat // q ≤ B }) (fun q=>⟨[(0,.i (.ptr (encPa ps cs))),(1,.i (.int .i64 k)),(5,.i (.sl (L.map encI))),(6,.i (.sl (D.map encI))),(7,.i (.int .i64 n)),(9,.ptr 9 0 0),(10,.i (.int .i64 q.1))],[(9,⟨13,[S]⟩)]⟩)
   (fun q=>L.length - q.1) ⟨0,Nat.zero_le _⟩ ⟨by simp [encPa],by simp,by simp⟩ (by kernel_rfl) ?_
  rintro ⟨q,hq⟩
  by_cases hqB:q < B
  ·have gq:=hgk q (by omega)
   have lq:=hb1 q hqB
   have ql:q < L.length:=by omega
   have ql':(q:Int) < L.length:=by omega
   generalize D.map encI = M at *
   obtain ⟨gq1,gq2⟩:=List.getElem?_eq_some_iff.1 gq
   simp (maxSteps:=999999) (disch:=first|exact {}|omega|simp) [zS,ql,ql',gq,gq2,lq,hml2,hS12,hS12',hSl]
   (refine ⟨⟨q + 1,by omega⟩,by (simp; try omega), ?_⟩; constructor <;> (simp (maxSteps:=999999) (disch:=first|exact {}|omega|simp) [zS]) <;> (try omega))
  ·obtain rfl:q = B:=by omega
   by_cases ql:q < L.length
   ·have gq:=hgk q ql
    have lq:=hb2 ql
    have ql':(q:Int) < L.length:=by omega
    generalize D.map encI = M at *
    obtain ⟨gq1,gq2⟩:=List.getElem?_eq_some_iff.1 gq
    simp (maxSteps:=999999) (disch:=first|exact {}|omega|simp) [zS,ql,ql',gq,gq2,lq,hml2,hS12,hS12',hSl]
    refine zC (hin1) ?_
    simp (maxSteps:=999999) (disch:=first|exact {}|omega|simp) [zS,hS12,hS12',hSl]
    refine zC (hin2) ?_
    simp (maxSteps:=999999) (disch:=first|exact {}|omega|simp) [zS,tL',tK',hKl]
    (refine ⟨⟨n + 1,by omega⟩,by (simp; try omega), ?_⟩; constructor <;> (simp (maxSteps:=999999) (disch:=first|exact {}|omega|simp) [zS,tL',tK',hKl,hLe,hDe,encPa]) <;> (try omega))
   ·have ql':¬ (q:Int) < L.length:=by omega
    simp (maxSteps:=999999) (disch:=first|exact {}|omega|simp) [zS,ql,ql',hml2,hS12,hS12',hSl]
    refine zC (hin1) ?_
    simp (maxSteps:=999999) (disch:=first|exact {}|omega|simp) [zS,hS12,hS12',hSl]
    refine zC (hin2) ?_
    simp (maxSteps:=999999) (disch:=first|exact {}|omega|simp) [zS,tL',tK',hKl]
    (refine ⟨⟨n + 1,by omega⟩,by (simp; try omega), ?_⟩; constructor <;> (simp (maxSteps:=999999) (disch:=first|exact {}|omega|simp) [zS,tL',tK',hKl,hLe,hDe,encPa]) <;> (try omega))
 ·simp (maxSteps:=999999) (disch:=first|exact {}|omega|simp) [zS,hlt,hg,encK,encPa,e,e',g1,hk]
  refine zC (hcx) ?_
  simp (maxSteps:=999999) (disch:=first|exact {}|omega|simp) [zS,encPa,g1,g2,hk,hul]
  refine zC (hsg) ?_
  simp (maxSteps:=999999) (disch:=first|exact {}|omega|simp) [zS,hSl]
  refine XL.by hE (ι:={ q:Nat // q ≤ B }) (fun q=>⟨[(0,.i (.ptr (encPa ps cs))),(1,.i (.int .i64 k)),(5,.i (.sl (L.map encI))),(6,.i (.sl (D.map encI))),(7,.i (.int .i64 n)),(9,.ptr 9 0 0),(10,.i (.int .i64 q.1))],[(9,⟨13,[S]⟩)]⟩)
   (fun q=>L.length - q.1) ⟨0,Nat.zero_le _⟩ ⟨by simp [encPa],by simp,by simp⟩ (by kernel_rfl) ?_
  rintro ⟨q,hq⟩
  by_cases hqB:q < B
  ·have gq:=hgk q (by omega)
   have lq:=hb1 q hqB
   have ql:q < L.length:=by omega
   have ql':(q:Int) < L.length:=by omega
   generalize D.map encI = M at *
   obtain ⟨gq1,gq2⟩:=List.getElem?_eq_some_iff.1 gq
   simp (maxSteps:=999999) (disch:=first|exact {}|omega|simp) [zS,ql,ql',gq,gq2,lq,hml2,hS12,hS12',hSl]
   (refine ⟨⟨q + 1,by omega⟩,by (simp; try omega), ?_⟩; constructor <;> (simp (maxSteps:=999999) (disch:=first|exact {}|omega|simp) [zS]) <;> (try omega))
  ·obtain rfl:q = B:=by omega
   by_cases ql:q < L.length
   ·have gq:=hgk q ql
    have lq:=hb2 ql
    have ql':(q:Int) < L.length:=by omega
    generalize D.map encI = M at *
    obtain ⟨gq1,gq2⟩:=List.getElem?_eq_some_iff.1 gq
    simp (maxSteps:=999999) (disch:=first|exact {}|omega|simp) [zS,ql,ql',gq,gq2,lq,hml2,hS12,hS12',hSl]
    refine zC (hin1) ?_
    simp (maxSteps:=999999) (disch:=first|exact {}|omega|simp) [zS,hS12,hS12',hSl]
    refine zC (hin2) ?_
    simp (maxSteps:=999999) (disch:=first|exact {}|omega|simp) [zS,tL',tK',hKl]
    (refine ⟨⟨n + 1,by omega⟩,by (simp; try omega), ?_⟩; constructor <;> (simp (maxSteps:=999999) (disch:=first|exact {}|omega|simp) [zS,tL',tK',hKl,hLe,hDe,encPa]) <;> (try omega))
   ·have ql':¬ (q:Int) < L.length:=by omega
    simp (maxSteps:=999999) (disch:=first|exact {}|omega|simp) [zS,ql,ql',hml2,hS12,hS12',hSl]
    refine zC (hin1) ?_
    simp (maxSteps:=999999) (disch:=first|exact {}|omega|simp) [zS,hS12,hS12',hSl]
    refine zC (hin2) ?_
    simp (maxSteps:=999999) (disch:=first|exact {}|omega|simp) [zS,tL',tK',hKl]
    (refine ⟨⟨n + 1,by omega⟩,by (simp; try omega), ?_⟩; constructor <;> (simp (maxSteps:=999999) (disch:=first|exact {}|omega|simp) [zS,tL',tK',hKl,hLe,hDe,encPa]) <;> (try omega))
end Go.Vai
namespace Go.Vai
def isP (ps:List Pt) (k:Int):Bool:=decide (0 ≤ k) && decide (k < ps.length)
theorem isP_iff {ps:List Pt} {k:Int}:isP ps k = true ↔ 0 ≤ k ∧ k < ps.length:=by unfold isP; simp
theorem isP_in (ps:List Pt) (k:Int):inB k 0 ((ps.length:Int) - 1) = isP ps k:=by
 rw [Bool.eq_iff_iff,isP_iff]
 unfold inB
 simp
 omega
noncomputable def okK (ps:List Pt) (cs:List Cr) (k:Int):Bool:=vB ps cs && isP ps k
theorem okK_nat {ps:List Pt} {cs:List Cr} {k:Int} (h:okK ps cs k = true):vB ps cs = true ∧ ∃ n:Nat,k = n ∧ n < ps.length:=by
 unfold okK at h
 rw [Bool.and_eq_true,isP_iff] at h
 exact ⟨h.1,k.toNat,by omega,by omega⟩
noncomputable def codeK (ps:List Pt) (cs:List Cr) (k:Int):Int:=if vB ps cs = true then (if isP ps k = true then 0 else 3) else 1
theorem codeK_ok {ps:List Pt} {cs:List Cr} {k:Int}:codeK ps cs k = 0 ↔ okK ps cs k = true:=by
 unfold codeK okK
 cases vB ps cs <;> cases isP ps k <;> simp
theorem c50 (ps:List Pt) (cs:List Cr) (k:Int) (h:(ps.length:Int) ≤ 1048576):PC E 50 [.agg (encPa ps cs),.i (.int .i64 k)] [.i (.bool (isP ps k))]:=by
 have hw:=c109 k 0 ((ps.length:Int) - 1)
 rw [isP_in] at hw
 refine zP hE Proofs.Tryz.func50 Proofs.Tryz.ntmps50 rfl rfl ?_
 simp (maxSteps:=999999) (disch:=first|exact {}|omega|simp) [zS,encPa]
 refine zC (c110 ps) ?_
 simp (maxSteps:=999999) (disch:=first|exact {}|omega|simp) [zS]
 refine zC (hw) ?_
 simp (maxSteps:=999999) (disch:=first|exact {}|omega|simp) [zS]
theorem c56 (ps:List Pt) (cs:List Cr) (k:Int) (h:(ps.length:Int) ≤ 1048576) (hc:(cs.length:Int) ≤ 1048576):PC E 56 [.agg (encPa ps cs),.i (.int .i64 k)] [.i (.int .i64 (codeK ps cs k))]:=by
 have hd:codeK ps cs k = if vB ps cs = true then (if isP ps k = true then 0 else 3) else 1:=rfl
 have hI:=c50 ps cs k h
 have hV:=c49 ps cs h hc
 refine zP hE Proofs.Tryz.func56 Proofs.Tryz.ntmps56 rfl rfl ?_
 simp (maxSteps:=999999) (disch:=first|exact {}|omega|simp) [zS,encPa]
 refine zC (hV) ?_
 simp (maxSteps:=999999) (disch:=first|exact {}|omega|simp) [zS,encPa]
 generalize vB ps cs = v at *
 cases v
 ·simp (maxSteps:=999999) (disch:=first|exact {}|omega|simp) [zS,hd]
 ·simp (maxSteps:=999999) (disch:=first|exact {}|omega|simp) [zS,encPa]
  refine zC (hI) ?_
  generalize isP ps k = u at *
  cases u
  ·simp (maxSteps:=999999) (disch:=first|exact {}|omega|simp) [zS,hd]
  ·simp (maxSteps:=999999) (disch:=first|exact {}|omega|simp) [zS,hd]
noncomputable def askR (ps:List Pt) (cs:List Cr) (k:Int):List Int:=if okK ps cs k = true then arrI ps cs else []
theorem c54 (ps:List Pt) (cs:List Cr) (k:Int) (h:(ps.length:Int) ≤ 1048576) (hc:(cs.length:Int) ≤ 1048576):PC E 54 [.i (.ptr (encPa ps cs)),.i (.int .i64 k)] [.own 1 ((askR ps cs k).map encI),.i (.int .i64 (codeK ps cs k))]:=by
 have hw:=c45 k 0 ((ps.length:Int) - 1)
 rw [isP_in] at hw
 have hal:=arrS_le (ps:=ps) hc
 refine zP hE Proofs.Tryz.func54 Proofs.Tryz.ntmps54 rfl rfl ?_
 simp (maxSteps:=999999) (disch:=first|exact {}|omega|simp) [zS]
 refine zC (c96 ps cs h hc) ?_
 simp (maxSteps:=999999) (disch:=first|exact {}|omega|simp) [zS]
 have tA:List.take (arrS ps cs).length ((arrS ps cs).map encI) = (arrS ps cs).map encI:=List.take_of_length_le (by simp)
 by_cases hv:vB ps cs = true
 rotate_left
 ·have e:vB ps cs = false:=by simpa using hv
  have n1:askR ps cs k = []:=by unfold askR okK; rw [e]; rfl
  have n2:codeK ps cs k = 1:=by unfold codeK; rw [e]; rfl
  simp (maxSteps:=999999) (disch:=first|exact {}|omega|simp) [zS,e,n1,n2]
 simp (maxSteps:=999999) (disch:=first|exact {}|omega|simp) [zS,hv,encPa]
 refine zC (hw) ?_
 by_cases hp:isP ps k = true
 ·have n1:askR ps cs k = arrS ps cs:=by unfold askR okK arrS; rw [hv,hp]; rfl
  have n2:codeK ps cs k = 0:=by unfold codeK; rw [hv,hp]; rfl
  simp (maxSteps:=999999) (disch:=first|exact {}|omega|simp) [zS,hp,n1,n2,tA]
 ·have e:isP ps k = false:=by simpa using hp
  have n1:askR ps cs k = []:=by unfold askR okK; rw [hv,e]; rfl
  have n2:codeK ps cs k = 3:=by unfold codeK; rw [hv,e]; rfl
  simp (maxSteps:=999999) (disch:=first|exact {}|omega|simp) [zS,e,n1,n2]
theorem get_atS {ps:List Pt} {cs:List Cr} {k q:Nat} (hv:vB ps cs = true) (hk:k < ps.length) (hq:q < (atS ps cs k cs.length).length):∃ i:Nat,(atS ps cs k cs.length)[q]? = some (i:Int) ∧ AtK ps cs k i:=by
 obtain ⟨i,hi,e,hb⟩:=atS_mem (List.getElem_mem hq)
 exact ⟨i,by rw [List.getElem?_eq_getElem hq,e],atK hv hk hi hb⟩
theorem map_take_snoc {f:Int → Int} {l:List Int} {q:Nat} {x:Int} (h:l[q]? = some x):(l.take (q + 1)).map f = (l.take q).map f ++ [f x]:=by
 rw [List.take_add_one,h]; simp
def mkN (key:Int → Int) (L:List Int) (q:Nat):List Int:=(L.take q).map key
theorem mkN_zero (key:Int → Int) (L:List Int):mkN key L 0 = []:=rfl
theorem mkN_len {key:Int → Int} {L:List Int} {q:Nat} (h:q ≤ L.length):((mkN key L q).map encI).length = q:=by unfold mkN; simp; omega
theorem mkN_all (key:Int → Int) (L:List Int):mkN key L L.length = L.map key:=by unfold mkN; rw [List.take_of_length_le (Nat.le_refl _)]
theorem c61 {ps:List Pt} {cs:List Cr} (hv:vB ps cs = true) {k:Nat} (hk:k < ps.length):PC E 61 [.agg (encPa ps cs),.i (.int .i64 k)] [.own 1 ((dirL ps cs k).map encI)]:=by
 obtain ⟨-,-,h40,h70⟩:=vB_facts hv
 have hL:(atS ps cs k cs.length).length ≤ cs.length:=by rw [atS_len]; exact atI_len cs k _
 have hget:=fun q=>get_atS (q:=q) hv hk
 have hD:dirL ps cs k = (atS ps cs k cs.length).map (keyA ps cs k):=rfl
 have hC:=c51 hv hk
 have hA:=fun i (H:AtK ps cs k i)=>c114 H
 generalize keyA ps cs k = key at *
 generalize atS ps cs k cs.length = L at *
 refine zP hE Proofs.Tryz.func61 Proofs.Tryz.ntmps61 rfl rfl ?_
 simp (maxSteps:=999999) (disch:=first|exact {}|omega|simp) [zS,encPa]
 refine zC (hC) ?_
 have tL:List.take L.length (L.map encI) = L.map encI:=List.take_of_length_le (by simp)
 simp (maxSteps:=999999) (disch:=first|exact {}|omega|simp) [zS,tL]
 refine XL.by hE (ι:={ q:Nat // q ≤ L.length }) (fun q=>⟨[(1,.i (.int .i64 k)),(2,.ptr 2 0 0),(5,.own 22 0 q.1),(10,.i (.sl (L.map encI))),(11,.i (.int .i64 L.length)),(12,.i (.int .i64 q.1))],[(2,⟨2,[encPa ps cs]⟩),(22,⟨1,(mkN key L q.1).map encI⟩)]⟩)
  (fun q=>L.length - q.1) ⟨0,Nat.zero_le _⟩ ⟨by simp,by simp [encPa,mkN_zero],by simp⟩ (by kernel_rfl) ?_
 rintro ⟨q,hq⟩
 have hll:((mkN key L q).map encI).length = q:=mkN_len hq
 have tX:List.take q ((mkN key L q).map encI) = (mkN key L q).map encI:=List.take_of_length_le (by omega)
 by_cases hlt:q < L.length
 ·obtain ⟨i,hg,H⟩:=hget q hlt
  have hst:=map_take_snoc (f:=key) hg
  have hst2:(mkN key L (q + 1)).map encI = (mkN key L q).map encI ++ [[.int .i64 (key i)]]:=by unfold mkN; rw [hst,List.map_append]; rfl
  have hg2:(L.map encI)[q]? = some [.int .i64 i]:=by rw [List.getElem?_map,hg]; rfl
  clear hst
  generalize (mkN key L q).map encI = A at *
  generalize hM:L.map encI = M at *
  have hMl:M.length = L.length:=by rw [← hM]; simp
  obtain ⟨hg3,hg4⟩:=List.getElem?_eq_some_iff.1 hg2
  simp (maxSteps:=999999) (disch:=first|exact {}|omega|simp) [zS,hlt,hg2,hg4,encPa,hMl]
  refine zC (hA i H) ?_
  simp (maxSteps:=999999) (disch:=first|exact {}|omega|simp) [zS,encPa,tX,hll]
  (refine ⟨⟨q + 1,by omega⟩,by (simp; try omega), ?_⟩; constructor <;> (simp (maxSteps:=999999) (disch:=first|exact {}|omega|simp) [zS,encPa,hst2,hll,tX]) <;> (try omega))
 ·obtain rfl:q = L.length:=by omega
  have hF:=(mkN_all key L).trans hD.symm
  rw [hF] at tX
  simp (maxSteps:=999999) (disch:=first|exact {}|omega|simp) [zS,hlt,encPa,hF,tX]
theorem c59 {ps:List Pt} {cs:List Cr} (hv:vB ps cs = true) {k:Nat} (hk:k < ps.length):PC E 59 [.agg (encPa ps cs),.i (.int .i64 k)] [.own 1 ((kinL ps cs k).map encI)]:=by
 obtain ⟨-,-,h40,h70⟩:=vB_facts hv
 have hL:(atS ps cs k cs.length).length ≤ cs.length:=by rw [atS_len]; exact atI_len cs k _
 have hget:=fun q=>get_atS (q:=q) hv hk
 have hD:kinL ps cs k = (atS ps cs k cs.length).map fun i=>(getK cs i.toNat).k:=rfl
 have hC:=c51 hv hk
 generalize hK:(fun i:Int=>(getK cs i.toNat).k) = key at *
 generalize atS ps cs k cs.length = L at *
 refine zP hE Proofs.Tryz.func59 Proofs.Tryz.ntmps59 rfl rfl ?_
 simp (maxSteps:=999999) (disch:=first|exact {}|omega|simp) [zS,encPa]
 refine zC (hC) ?_
 have tL:List.take L.length (L.map encI) = L.map encI:=List.take_of_length_le (by simp)
 simp (maxSteps:=999999) (disch:=first|exact {}|omega|simp) [zS,tL]
 refine XL.by hE (ι:={ q:Nat // q ≤ L.length }) (fun q=>⟨[(2,.ptr 2 0 0),(5,.own 24 0 q.1),(10,.i (.sl (L.map encI))),(11,.i (.int .i64 L.length)),(12,.i (.int .i64 q.1))],[(2,⟨2,[encPa ps cs]⟩),(24,⟨1,(mkN key L q.1).map encI⟩)]⟩)
  (fun q=>L.length - q.1) ⟨0,Nat.zero_le _⟩ ⟨by simp,by simp [encPa,mkN_zero],by simp⟩ (by kernel_rfl) ?_
 rintro ⟨q,hq⟩
 have hll:((mkN key L q).map encI).length = q:=mkN_len hq
 have tX:List.take q ((mkN key L q).map encI) = (mkN key L q).map encI:=List.take_of_length_le (by omega)
 by_cases hlt:q < L.length
 ·obtain ⟨i,hg,H⟩:=hget q hlt
  obtain ⟨hi,-⟩:=H
  obtain ⟨hgk,-⟩:=getK_get hi
  have hki:key i = (getK cs i).k:=by rw [← hK]; simp
  have hst:=map_take_snoc (f:=key) hg
  have hst2:(mkN key L (q + 1)).map encI = (mkN key L q).map encI ++ [[.int .i64 (getK cs i).k]]:=by unfold mkN; rw [hst,List.map_append,hki]; rfl
  have hg2:(L.map encI)[q]? = some [.int .i64 i]:=by rw [List.getElem?_map,hg]; rfl
  clear hst hki
  generalize getK cs i = c at *
  generalize (mkN key L q).map encI = A at *
  generalize hM:L.map encI = M at *
  have hMl:M.length = L.length:=by rw [← hM]; simp
  obtain ⟨hg3,hg4⟩:=List.getElem?_eq_some_iff.1 hg2
  simp (maxSteps:=999999) (disch:=first|exact {}|omega|simp) [zS,hlt,hg2,hg4,encPa,hMl,hgk,hi,encK,tX,hll]
  (refine ⟨⟨q + 1,by omega⟩,by (simp; try omega), ?_⟩; constructor <;> (simp (maxSteps:=999999) (disch:=first|exact {}|omega|simp) [zS,encPa,hst2,hll,tX]) <;> (try omega))
 ·obtain rfl:q = L.length:=by omega
  have hF:=(mkN_all key L).trans hD.symm
  rw [hF] at tX
  simp (maxSteps:=999999) (disch:=first|exact {}|omega|simp) [zS,hlt,encPa,hF,tX]
theorem c121 {ps:List Pt} {a b:Nat} (ha:a < ps.length) (hb:b < ps.length) (pa:PV (nth ps a)) (pb:PV (nth ps b)) (cs:List Cr):PC E 121 [.i (.ptr (encPa ps cs)),.i (.int .i64 a),.i (.int .i64 b)] [.i (.int .i64 (dirR (pminus (nth ps b) (nth ps a))))]:=by
 have g1:=encPs_get ha
 have g2:=encPs_get hb
 generalize nth ps a = x at *
 generalize nth ps b = y at *
 have m:=pb.minus pa
 refine zP hE Proofs.Tryz.func121 Proofs.Tryz.ntmps121 rfl rfl ?_
 simp (maxSteps:=999999) (disch:=first|exact {}|omega|simp) [zS,encPa,g2,hb]
 refine zC (c124 y) ?_
 simp (maxSteps:=999999) (disch:=first|exact {}|omega|simp) [zS,encPa,g1,ha]
 refine zC (c124 x) ?_
 simp (maxSteps:=999999) (disch:=first|exact {}|omega|simp) [zS]
 refine zC (c126 y x pb pa (by decide) (by decide)) ?_
 simp (maxSteps:=999999) (disch:=first|exact {}|omega|simp) [zS]
 refine zC (c125 (pminus y x) m (by decide) (by decide)) ?_
 simp (maxSteps:=999999) (disch:=first|exact {}|omega|simp) [zS]
theorem c60 {ps:List Pt} {cs:List Cr} (hv:vB ps cs = true) {k:Nat} (hk:k < ps.length):PC E 60 [.i (.ptr (encPa ps cs)),.i (.int .i64 k)] [.own 1 ((dirL ps cs k).map encI)]:=by
 obtain ⟨-,-,h40,h70⟩:=vB_facts hv
 have hL:(atS ps cs k cs.length).length ≤ cs.length:=by rw [atS_len]; exact atI_len cs k _
 have hget:=fun q=>get_atS (q:=q) hv hk
 have hD:dirL ps cs k = (atS ps cs k cs.length).map (keyA ps cs k):=rfl
 have hC:=c46 hv hk
 generalize hK:keyA ps cs k = key at *
 generalize atS ps cs k cs.length = L at *
 refine zP hE Proofs.Tryz.func60 Proofs.Tryz.ntmps60 rfl rfl ?_
 simp (maxSteps:=999999) (disch:=first|exact {}|omega|simp) [zS]
 refine zC (hC) ?_
 simp (maxSteps:=999999) (disch:=first|exact {}|omega|simp) [zS]
 refine XL.by hE (ι:={ q:Nat // q ≤ L.length }) (fun q=>⟨[(0,.i (.ptr (encPa ps cs))),(1,.i (.int .i64 k)),(5,.own 35 0 q.1),(6,.i (.sl (L.map encI))),(7,.i (.int .i64 q.1))],[(35,⟨1,(mkN key L q.1).map encI⟩)]⟩)
  (fun q=>L.length - q.1) ⟨0,Nat.zero_le _⟩ ⟨by simp,by simp [mkN_zero],by simp⟩ (by kernel_rfl) ?_
 rintro ⟨q,hq⟩
 have hll:((mkN key L q).map encI).length = q:=mkN_len hq
 have tX:List.take q ((mkN key L q).map encI) = (mkN key L q).map encI:=List.take_of_length_le (by omega)
 by_cases hlt:q < L.length
 ·obtain ⟨i,hg,H⟩:=hget q hlt
  obtain ⟨u,hu,hul,po,key1⟩:=H.un
  obtain ⟨hi,h1,g40,g70,a0,ab,bn,o0,o1,pk,-,-⟩:=H
  rw [hK] at key1
  obtain ⟨hgk,-⟩:=getK_get hi
  have hst:=map_take_snoc (f:=key) hg
  have hst2:(mkN key L (q + 1)).map encI = (mkN key L q).map encI ++ [[.int .i64 (key i)]]:=by unfold mkN; rw [hst,List.map_append]; rfl
  have hg2:(L.map encI)[q]? = some [.int .i64 i]:=by rw [List.getElem?_map,hg]; rfl
  clear hst
  generalize getK cs i = c at *
  have hcx:=c97 c k a0 (by omega) (by omega) (by omega) (by omega) (by omega)
  rw [hu] at hcx
  have hdr:=c121 (cs:=cs) hk hul pk po
  rw [← key1] at hdr
  generalize key (i:Int) = y at *
  generalize (mkN key L q).map encI = A at *
  generalize hM:L.map encI = M at *
  have hMl:M.length = L.length:=by rw [← hM]; simp
  obtain ⟨hg3,hg4⟩:=List.getElem?_eq_some_iff.1 hg2
  simp (maxSteps:=999999) (disch:=first|exact {}|omega|simp) [zS,hlt,hg2,hg4,encPa,hMl,hgk,hi,hll,tX]
  refine zC (hcx) ?_
  simp (maxSteps:=999999) (disch:=first|exact {}|omega|simp) [zS,encPa]
  refine zC (hdr) ?_
  simp (maxSteps:=999999) (disch:=first|exact {}|omega|simp) [zS,tX,hll]
  (refine ⟨⟨q + 1,by omega⟩,by (simp; try omega), ?_⟩; constructor <;> (simp (maxSteps:=999999) (disch:=first|exact {}|omega|simp) [zS,hst2,hll,tX]) <;> (try omega))
 ·obtain rfl:q = L.length:=by omega
  have hF:=(mkN_all key L).trans hD.symm
  rw [hF] at tX
  simp (maxSteps:=999999) (disch:=first|exact {}|omega|simp) [zS,hlt,hF,tX]
theorem c58 {ps:List Pt} {cs:List Cr} (hv:vB ps cs = true) {k:Nat} (hk:k < ps.length):PC E 58 [.i (.ptr (encPa ps cs)),.i (.int .i64 k)] [.own 1 ((kinL ps cs k).map encI)]:=by
 obtain ⟨-,-,h40,h70⟩:=vB_facts hv
 have hL:(atS ps cs k cs.length).length ≤ cs.length:=by rw [atS_len]; exact atI_len cs k _
 have hget:=fun q=>get_atS (q:=q) hv hk
 have hD:kinL ps cs k = (atS ps cs k cs.length).map fun i=>(getK cs i.toNat).k:=rfl
 have hC:=c46 hv hk
 generalize hK:(fun i:Int=>(getK cs i.toNat).k) = key at *
 generalize atS ps cs k cs.length = L at *
 refine zP hE Proofs.Tryz.func58 Proofs.Tryz.ntmps58 rfl rfl ?_
 simp (maxSteps:=999999) (disch:=first|exact {}|omega|simp) [zS]
 refine zC (hC) ?_
 simp (maxSteps:=999999) (disch:=first|exact {}|omega|simp) [zS]
 refine XL.by hE (ι:={ q:Nat // q ≤ L.length }) (fun q=>⟨[(0,.i (.ptr (encPa ps cs))),(5,.own 31 0 q.1),(6,.i (.sl (L.map encI))),(7,.i (.int .i64 q.1))],[(31,⟨1,(mkN key L q.1).map encI⟩)]⟩)
  (fun q=>L.length - q.1) ⟨0,Nat.zero_le _⟩ ⟨by simp,by simp [mkN_zero],by simp⟩ (by kernel_rfl) ?_
 rintro ⟨q,hq⟩
 have hll:((mkN key L q).map encI).length = q:=mkN_len hq
 have tX:List.take q ((mkN key L q).map encI) = (mkN key L q).map encI:=List.take_of_length_le (by omega)
 by_cases hlt:q < L.length
 ·obtain ⟨i,hg,H⟩:=hget q hlt
  obtain ⟨hi,-⟩:=H
  obtain ⟨hgk,-⟩:=getK_get hi
  have hki:key i = (getK cs i).k:=by rw [← hK]; simp
  have hst:=map_take_snoc (f:=key) hg
  have hst2:(mkN key L (q + 1)).map encI = (mkN key L q).map encI ++ [[.int .i64 (getK cs i).k]]:=by unfold mkN; rw [hst,List.map_append,hki]; rfl
  have hg2:(L.map encI)[q]? = some [.int .i64 i]:=by rw [List.getElem?_map,hg]; rfl
  clear hst hki
  generalize getK cs i = c at *
  generalize (mkN key L q).map encI = A at *
  generalize hM:L.map encI = M at *
  have hMl:M.length = L.length:=by rw [← hM]; simp
  obtain ⟨hg3,hg4⟩:=List.getElem?_eq_some_iff.1 hg2
  simp (maxSteps:=999999) (disch:=first|exact {}|omega|simp) [zS,hlt,hg2,hg4,encPa,hMl,hgk,hi,encK,tX,hll]
  (refine ⟨⟨q + 1,by omega⟩,by (simp; try omega), ?_⟩; constructor <;> (simp (maxSteps:=999999) (disch:=first|exact {}|omega|simp) [zS,hst2,hll,tX]) <;> (try omega))
 ·obtain rfl:q = L.length:=by omega
  have hF:=(mkN_all key L).trans hD.symm
  rw [hF] at tX
  simp (maxSteps:=999999) (disch:=first|exact {}|omega|simp) [zS,hlt,hF,tX]
noncomputable def dirS (ps:List Pt) (cs:List Cr) (k:Int):List Int:=if okK ps cs k = true then dirL ps cs k else []
noncomputable def kinS (ps:List Pt) (cs:List Cr) (k:Int):List Int:=if okK ps cs k = true then kinL ps cs k else []
theorem c26 (ps:List Pt) (cs:List Cr) (k:Int) (h:(ps.length:Int) ≤ 1048576) (hc:(cs.length:Int) ≤ 1048576):PC E 26 [.agg (encPa ps cs),.i (.int .i64 k)] [.own 1 ((dirS ps cs k).map encI),.i (.int .i64 (codeK ps cs k))]:=by
 refine zP hE Proofs.Tryz.func26 Proofs.Tryz.ntmps26 rfl rfl ?_
 simp (maxSteps:=999999) (disch:=first|exact {}|omega|simp) [zS,encPa]
 refine zC (c56 ps cs k h hc) ?_
 simp (maxSteps:=999999) (disch:=first|exact {}|omega|simp) [zS]
 by_cases hp:okK ps cs k = true
 ·have e0:=codeK_ok.2 hp
  have e1:dirS ps cs k = dirL ps cs k:=by unfold dirS; rw [if_pos hp]
  obtain ⟨hv,n,rfl,hn⟩:=okK_nat hp
  have tX:List.take (dirL ps cs n).length ((dirL ps cs n).map encI) = (dirL ps cs n).map encI:=List.take_of_length_le (by simp)
  simp (maxSteps:=999999) (disch:=first|exact {}|omega|simp) [zS,e0,e1,encPa]
  refine zC (c61 hv hn) ?_
  simp (maxSteps:=999999) (disch:=first|exact {}|omega|simp) [zS,tX]
 ·have e0:¬ codeK ps cs k = 0:=fun e=>hp (codeK_ok.1 e)
  have e1:dirS ps cs k = []:=by unfold dirS; rw [if_neg hp]
  simp (maxSteps:=999999) (disch:=first|exact {}|omega|simp) [zS,e0,e1]
theorem c25 (ps:List Pt) (cs:List Cr) (k:Int) (h:(ps.length:Int) ≤ 1048576) (hc:(cs.length:Int) ≤ 1048576):PC E 25 [.agg (encPa ps cs),.i (.int .i64 k)] [.own 1 ((dirS ps cs k).map encI),.i (.int .i64 (codeK ps cs k))]:=by
 refine zP hE Proofs.Tryz.func25 Proofs.Tryz.ntmps25 rfl rfl ?_
 simp (maxSteps:=999999) (disch:=first|exact {}|omega|simp) [zS,encPa]
 refine zC (c54 ps cs k h hc) ?_
 simp (maxSteps:=999999) (disch:=first|exact {}|omega|simp) [zS]
 by_cases hp:okK ps cs k = true
 ·have e0:=codeK_ok.2 hp
  have e1:dirS ps cs k = dirL ps cs k:=by unfold dirS; rw [if_pos hp]
  obtain ⟨hv,n,rfl,hn⟩:=okK_nat hp
  have tX:List.take (dirL ps cs n).length ((dirL ps cs n).map encI) = (dirL ps cs n).map encI:=List.take_of_length_le (by simp)
  simp (maxSteps:=999999) (disch:=first|exact {}|omega|simp) [zS,e0,e1,encPa]
  refine zC (c60 hv hn) ?_
  simp (maxSteps:=999999) (disch:=first|exact {}|omega|simp) [zS,tX]
 ·have e0:¬ codeK ps cs k = 0:=fun e=>hp (codeK_ok.1 e)
  have e1:dirS ps cs k = []:=by unfold dirS; rw [if_neg hp]
  simp (maxSteps:=999999) (disch:=first|exact {}|omega|simp) [zS,e0,e1]
theorem c24 (ps:List Pt) (cs:List Cr) (k:Int) (h:(ps.length:Int) ≤ 1048576) (hc:(cs.length:Int) ≤ 1048576):PC E 24 [.agg (encPa ps cs),.i (.int .i64 k)] [.own 1 ((kinS ps cs k).map encI),.i (.int .i64 (codeK ps cs k))]:=by
 refine zP hE Proofs.Tryz.func24 Proofs.Tryz.ntmps24 rfl rfl ?_
 simp (maxSteps:=999999) (disch:=first|exact {}|omega|simp) [zS,encPa]
 refine zC (c56 ps cs k h hc) ?_
 simp (maxSteps:=999999) (disch:=first|exact {}|omega|simp) [zS]
 by_cases hp:okK ps cs k = true
 ·have e0:=codeK_ok.2 hp
  have e1:kinS ps cs k = kinL ps cs k:=by unfold kinS; rw [if_pos hp]
  obtain ⟨hv,n,rfl,hn⟩:=okK_nat hp
  have tX:List.take (kinL ps cs n).length ((kinL ps cs n).map encI) = (kinL ps cs n).map encI:=List.take_of_length_le (by simp)
  simp (maxSteps:=999999) (disch:=first|exact {}|omega|simp) [zS,e0,e1,encPa]
  refine zC (c59 hv hn) ?_
  simp (maxSteps:=999999) (disch:=first|exact {}|omega|simp) [zS,tX]
 ·have e0:¬ codeK ps cs k = 0:=fun e=>hp (codeK_ok.1 e)
  have e1:kinS ps cs k = []:=by unfold kinS; rw [if_neg hp]
  simp (maxSteps:=999999) (disch:=first|exact {}|omega|simp) [zS,e0,e1]
theorem c23 (ps:List Pt) (cs:List Cr) (k:Int) (h:(ps.length:Int) ≤ 1048576) (hc:(cs.length:Int) ≤ 1048576):PC E 23 [.agg (encPa ps cs),.i (.int .i64 k)] [.own 1 ((kinS ps cs k).map encI),.i (.int .i64 (codeK ps cs k))]:=by
 refine zP hE Proofs.Tryz.func23 Proofs.Tryz.ntmps23 rfl rfl ?_
 simp (maxSteps:=999999) (disch:=first|exact {}|omega|simp) [zS,encPa]
 refine zC (c54 ps cs k h hc) ?_
 simp (maxSteps:=999999) (disch:=first|exact {}|omega|simp) [zS]
 by_cases hp:okK ps cs k = true
 ·have e0:=codeK_ok.2 hp
  have e1:kinS ps cs k = kinL ps cs k:=by unfold kinS; rw [if_pos hp]
  obtain ⟨hv,n,rfl,hn⟩:=okK_nat hp
  have tX:List.take (kinL ps cs n).length ((kinL ps cs n).map encI) = (kinL ps cs n).map encI:=List.take_of_length_le (by simp)
  simp (maxSteps:=999999) (disch:=first|exact {}|omega|simp) [zS,e0,e1,encPa]
  refine zC (c58 hv hn) ?_
  simp (maxSteps:=999999) (disch:=first|exact {}|omega|simp) [zS,tX]
 ·have e0:¬ codeK ps cs k = 0:=fun e=>hp (codeK_ok.1 e)
  have e1:kinS ps cs k = []:=by unfold kinS; rw [if_neg hp]
  simp (maxSteps:=999999) (disch:=first|exact {}|omega|simp) [zS,e0,e1]
noncomputable def csS (ps:List Pt) (cs:List Cr) (k:Int):List Int:=if okK ps cs k = true then atS ps cs k cs.length else []
theorem c15 (ps:List Pt) (cs:List Cr) (k:Int) (h:(ps.length:Int) ≤ 1048576) (hc:(cs.length:Int) ≤ 1048576):PC E 15 [.agg (encPa ps cs),.i (.int .i64 k)] [.own 1 ((csS ps cs k).map encI)]:=by
 have hd:csS ps cs k = if okK ps cs k = true then atS ps cs k cs.length else []:=rfl
 have ho:okK ps cs k = (vB ps cs && isP ps k):=rfl
 have hI:=c50 ps cs k h
 refine zP hE Proofs.Tryz.func15 Proofs.Tryz.ntmps15 rfl rfl ?_
 simp (maxSteps:=999999) (disch:=first|exact {}|omega|simp) [zS,encPa]
 refine zC (c49 ps cs h hc) ?_
 simp (maxSteps:=999999) (disch:=first|exact {}|omega|simp) [zS,encPa]
 by_cases hv:vB ps cs = true
 rotate_left
 ·have e:vB ps cs = false:=by simpa using hv
  rw [e,Bool.false_and] at ho
  simp (maxSteps:=999999) (disch:=first|exact {}|omega|simp) [zS,e,hd,ho]
 simp (maxSteps:=999999) (disch:=first|exact {}|omega|simp) [zS,hv,encPa]
 refine zC (hI) ?_
 by_cases hp:isP ps k = true
 ·rw [hv,hp] at ho
  obtain ⟨-,n,rfl,hn⟩:=okK_nat (ps:=ps) (cs:=cs) (k:=k) (by rw [ho]; rfl)
  have e1:csS ps cs n = atS ps cs n cs.length:=by rw [hd,if_pos (by rw [ho]; rfl)]
  have tX:List.take (atS ps cs n cs.length).length ((atS ps cs n cs.length).map encI) = (atS ps cs n cs.length).map encI:=List.take_of_length_le (by simp)
  simp (maxSteps:=999999) (disch:=first|exact {}|omega|simp) [zS,hp,encPa]
  refine zC (c51 hv hn) ?_
  simp (maxSteps:=999999) (disch:=first|exact {}|omega|simp) [zS,e1,tX]
 ·have e:isP ps k = false:=by simpa using hp
  rw [e,Bool.and_false] at ho
  simp (maxSteps:=999999) (disch:=first|exact {}|omega|simp) [zS,e,hd,ho]
theorem c13 (ps:List Pt) (cs:List Cr) (k:Int) (h:(ps.length:Int) ≤ 1048576) (hc:(cs.length:Int) ≤ 1048576):PC E 13 [.agg (encPa ps cs),.i (.int .i64 k)] [.i (.sl ((csS ps cs k).map encI))]:=by
 have hd:csS ps cs k = if okK ps cs k = true then atS ps cs k cs.length else []:=rfl
 have ho:okK ps cs k = (vB ps cs && isP ps k):=rfl
 have hw:=c45 k 0 ((ps.length:Int) - 1)
 rw [isP_in] at hw
 refine law_start hE Proofs.Tryz.func13 rfl rfl Proofs.Tryz.ntmps13 (by kernel_rfl) (by simp) fun F w a hx hf0=>?_
 refine seg hE 0 ⟨[(2,.ptr 2 0 0),(1,.i (.int .i64 k))],[(2,⟨2,[encPa ps cs]⟩)]⟩ hx (Back.refl _ _) hf0 (by kernel_rfl) (by kernel_rfl) ?_ fun a w1 hf1=>?_
 ·simp (maxSteps:=999999) (disch:=first|exact {}|omega|simp) [zS,cutC,encPa]
  exact ⟨by simp (maxSteps:=999999) (disch:=first|exact {}|omega|simp) [zS],by simp (maxSteps:=999999) (disch:=first|exact {}|omega|simp) [zS,encPa],by simp (maxSteps:=999999) (disch:=first|exact {}|omega|simp) [zS]⟩
 simp only [restN]
 have eF:(fun b=>F b ∨ False) = F:=by funext b; simp
 obtain ⟨zA,FA,bk,off,cv,hzA,hxA,hbA,hsA,-,hGA,hfA,hbkA,hcA⟩:=freeze_var (R:=fun _=>False) (F:=F) (ys:=encPa ps cs) (by rw [eF]; exact hx) (by rw [eF]; exact hf1) (fun _ _ h=>h) hx.glob rfl rfl (by decide) rfl
  (fun Fc j x y v _ _ h1 h2 h3=>by rw [h1] at h2; obtain rfl:=Option.some.inj h2; exact h3)
 have eFA:(fun b=>FA b ∨ False) = FA:=by funext b; simp
 rw [eFA] at hxA hbA hfA
 rw [eF] at hbA
 subst hzA
 have hfB:=hfA.unpin (t:=2) rfl
 refine segEnd hE hxA hbA hfB (by kernel_rfl) ?_
 simp (maxSteps:=999999) (disch:=first|exact {}|omega|simp) [zS,encPa]
 refine zC (c44 ps cs h hc) ?_
 simp (maxSteps:=999999) (disch:=first|exact {}|omega|simp) [zS,encPa]
 by_cases hv:vB ps cs = true
 rotate_left
 ·have e:vB ps cs = false:=by simpa using hv
  rw [e,Bool.false_and] at ho
  simp (maxSteps:=999999) (disch:=first|exact {}|omega|simp) [zS,e,hd,ho]
 simp (maxSteps:=999999) (disch:=first|exact {}|omega|simp) [zS,hv,encPa]
 refine zC (hw) ?_
 by_cases hp:isP ps k = true
 ·rw [hv,hp] at ho
  obtain ⟨-,n,rfl,hn⟩:=okK_nat (ps:=ps) (cs:=cs) (k:=k) (by rw [ho]; rfl)
  have e1:csS ps cs n = atS ps cs n cs.length:=by rw [hd,if_pos (by rw [ho]; rfl)]
  simp (maxSteps:=999999) (disch:=first|exact {}|omega|simp) [zS,hp,encPa]
  refine zC (c46 hv hn) ?_
  simp (maxSteps:=999999) (disch:=first|exact {}|omega|simp) [zS,e1]
 ·have e:isP ps k = false:=by simpa using hp
  rw [e,Bool.and_false] at ho
  simp (maxSteps:=999999) (disch:=first|exact {}|omega|simp) [zS,e,hd,ho]
theorem kin_le {ps:List Pt} {cs:List Cr} (k:Int):(kinL ps cs k).length ≤ cs.length:=by rw [kinL_len]; exact dirL_len ps cs k
theorem len_of {ps:List Pt} {cs:List Cr} {k:Int} {l:List Int} (h:l.length ≤ cs.length) (ho:okK ps cs k = true):l.length ≤ 70:=by
 obtain ⟨hv,-⟩:=okK_nat ho
 have:=(vB_facts hv).2.2.2
 omega
theorem dirS_len (ps:List Pt) (cs:List Cr) (k:Int):(dirS ps cs k).length ≤ 70:=by
 unfold dirS
 split
 ·rename_i h; exact len_of (dirL_len _ _ _) h
 ·simp
theorem kinS_len (ps:List Pt) (cs:List Cr) (k:Int):(kinS ps cs k).length ≤ 70:=by
 unfold kinS
 split
 ·rename_i h; exact len_of (kin_le k) h
 ·simp
theorem csS_len (ps:List Pt) (cs:List Cr) (k:Int):(csS ps cs k).length ≤ 70:=by
 unfold csS
 split
 ·rename_i h; exact len_of (by rw [atS_len]; exact atI_len _ _ _) h
 ·simp
end Go.Vai
namespace Go.Vai
open Pq
def iidx (l:List Int) (q:Int):Int:=fidx (fun x=>decide (x = q)) l
theorem c160 (l:List Int) (q:Int) (h:(l.length:Int) ≤ 1048576):PC E 160 [.i (.sl (l.map encI)),.i (.int .i64 q)] [.i (.int .i64 (iidx l q))]:=by
 refine zP hE Proofs.Tryz.func160 Proofs.Tryz.ntmps160 rfl rfl ?_
 simp (maxSteps:=999999) (disch:=first|exact {}|omega|simp) [zS]
 refine XL.by hE (ι:={ k:Nat // k ≤ l.length ∧ ∀ (j:Nat) (hj:j < l.length),j < k → (fun x=>decide (x = q)) l[j] = false }) (fun k=>⟨[(0,.i (.sl (l.map encI))),(1,.i (.int .i64 q)),(7,.i (.int .i64 l.length)),(8,.i (.int .i64 k.1))],[]⟩)
  (fun k=>l.length - k.1) ⟨0,Nat.zero_le _,by simp⟩ ⟨by simp,by simp,by simp⟩ (by kernel_rfl) ?_
 rintro ⟨k,hk,hno⟩
 by_cases hlt:k < l.length
 ·have hg:(l.map encI)[k]? = some [.int .i64 l[k]]:=by simp [encI,hlt]
  have hat:=fun h=>fidx_at (p:=fun x=>decide (x = q)) hlt hno h
  have hnx:=fun h=>step_no (p:=fun x=>decide (x = q)) hno hlt h
  obtain ⟨hg1,hg2⟩:=List.getElem?_eq_some_iff.1 hg
  generalize l[k] = x at *
  simp (maxSteps:=999999) (disch:=first|exact {}|omega|simp) [zS,hlt,hg,hg2]
  by_cases e:q = x
  ·have:=hat (by simp [e])
   simp (maxSteps:=999999) (disch:=first|exact {}|omega|simp) [zS,e]
   rw [iidx,← e,this]
  ·simp (maxSteps:=999999) (disch:=first|exact {}|omega|simp) [zS,e]
   (refine ⟨⟨k + 1,by omega,hnx (by simp; exact fun h=>e h.symm)⟩,by (simp; try omega), ?_⟩; constructor <;> (simp (maxSteps:=999999) (disch:=first|exact {}|omega|simp) [zS]) <;> (try omega))
 ·obtain rfl:k = l.length:=by omega
  simp (maxSteps:=999999) (disch:=first|exact {}|omega|simp) [zS,iidx,fidx_none (p:=fun x=>decide (x = q)) fun j hj=>hno j hj hj]
theorem iidx_any (l:List Int) (q:Int):decide (0 ≤ iidx l q) = l.any fun x=>decide (x = q):=by
 rw [Bool.eq_iff_iff,decide_eq_true_eq,List.any_eq_true]
 constructor
 ·intro h0
  refine Classical.byContradiction fun hno=>?_
  have:iidx l q = -1:=fidx_none fun j hj=>Bool.eq_false_iff.2 fun e=>hno ⟨l[j],List.getElem_mem hj,e⟩
  omega
 ·rintro ⟨x,hx,hxe⟩
  unfold iidx fidx
  cases hf:l.findIdx? (fun x=>decide (x = q)) with
  | some i=>simp
  | none =>
   rw [List.findIdx?_eq_none_iff] at hf
   have:=hf x hx
   rw [this] at hxe; simp at hxe
theorem c119 (l:List Int) (q:Int) (h:(l.length:Int) ≤ 1048576):PC E 119 [.i (.sl (l.map encI)),.i (.int .i64 q)] [.i (.bool (l.any fun x=>decide (x = q)))]:=by
 rw [← iidx_any]
 refine zP hE Proofs.Tryz.func119 Proofs.Tryz.ntmps119 rfl rfl ?_
 simp (maxSteps:=999999) (disch:=first|exact {}|omega|simp) [zS]
 refine zC (c160 l q h) ?_
 simp (maxSteps:=999999) (disch:=first|exact {}|omega|simp) [zS]
theorem c202 (l:List Int) (v:Int) (h:(l.length:Int) ≤ 1048576):PC E 202 [.i (.sl (l.map encI)),.i (.int .i64 v)] [.i (.int .i64 (cnt l v l.length))]:=by
 refine zP hE Proofs.Tryz.func202 Proofs.Tryz.ntmps202 rfl rfl ?_
 simp (maxSteps:=999999) (disch:=first|exact {}|omega|simp) [zS]
 refine XL.by hE (ι:={ q:Nat // q ≤ l.length }) (fun q=>⟨[(1,.i (.int .i64 v)),(5,.i (.int .i64 (cnt l v q.1))),(8,.i (.sl (l.map encI))),(9,.i (.int .i64 l.length)),(10,.i (.int .i64 q.1))],[]⟩)
  (fun q=>l.length - q.1) ⟨0,Nat.zero_le _⟩ ⟨by simp [cnt],by simp,by simp⟩ (by kernel_rfl) ?_
 rintro ⟨q,hq⟩
 have hb:=cnt_bd l v q
 by_cases hlt:q < l.length
 ·have hst:cnt l v (q + 1) = if nthI l q = v then cnt l v q + 1 else cnt l v q:=rfl
  have hg:(l.map encI)[q]? = some [.int .i64 (nthI l q)]:=by rw [List.getElem?_map,List.getElem?_eq_getElem hlt,nthI_eq hlt]; rfl
  generalize cnt l v q = c at *
  generalize nthI l q = x at *
  simp (maxSteps:=999999) (disch:=first|exact {}|omega|simp) [zS,hlt,hg]
  by_cases e:x = v
  ·rw [if_pos e] at hst
   simp (maxSteps:=999999) (disch:=first|exact {}|omega|simp) [zS,e]
   (refine ⟨⟨q + 1,by omega⟩,by (simp; try omega), ?_⟩; constructor <;> (simp (maxSteps:=999999) (disch:=first|exact {}|omega|simp) [zS,hst]) <;> (try omega))
  ·rw [if_neg e] at hst
   simp (maxSteps:=999999) (disch:=first|exact {}|omega|simp) [zS,e]
   (refine ⟨⟨q + 1,by omega⟩,by (simp; try omega), ?_⟩; constructor <;> (simp (maxSteps:=999999) (disch:=first|exact {}|omega|simp) [zS,hst]) <;> (try omega))
 ·obtain rfl:q = l.length:=by omega
  simp (maxSteps:=999999) (disch:=first|exact {}|omega|simp) [zS,hlt]
theorem c120 (l:List Int) (h:(l.length:Int) ≤ 1048576):PC E 120 [.i (.sl (l.map encI))] [.i (.int .i64 (excN l))]:=by
 have hd:excN l = if cnt l 2 l.length - cnt l 3 l.length < 0 then -(cnt l 2 l.length - cnt l 3 l.length) else cnt l 2 l.length - cnt l 3 l.length:=rfl
 have b2:=cnt_bd l 2 l.length
 have b3:=cnt_bd l 3 l.length
 have c2:=c202 l 2 h
 have c3:=c202 l 3 h
 rw [hd]
 generalize cnt l 2 l.length = x at *
 generalize cnt l 3 l.length = y at *
 refine zP hE Proofs.Tryz.func120 Proofs.Tryz.ntmps120 rfl rfl ?_
 simp (maxSteps:=999999) (disch:=first|exact {}|omega|simp) [zS]
 refine zC (c2) ?_
 simp (maxSteps:=999999) (disch:=first|exact {}|omega|simp) [zS]
 refine zC (c3) ?_
 simp (maxSteps:=999999) (disch:=first|exact {}|omega|simp) [zS]
 refine zC (c201 (x - y) (by omega) (by omega)) ?_
 simp (maxSteps:=999999) (disch:=first|exact {}|omega|simp) [zS]
 split <;> omega
theorem c117 (l:List Int) (h:(l.length:Int) ≤ 1048576):PC E 117 [.i (.sl (l.map encI))] [.i (.int .i64 (tal l l.length))]:=by
 refine zP hE Proofs.Tryz.func117 Proofs.Tryz.ntmps117 rfl rfl ?_
 simp (maxSteps:=999999) (disch:=first|exact {}|omega|simp) [zS]
 refine XL.by hE (ι:={ q:Nat // q ≤ l.length }) (fun q=>⟨[(0,.i (.sl (l.map encI))),(3,.i (.int .i64 (tal l q.1))),(4,.i (.int .i64 q.1))],[]⟩)
  (fun q=>l.length - q.1) ⟨0,Nat.zero_le _⟩ ⟨by simp [tal],by simp,by simp⟩ (by kernel_rfl) ?_
 rintro ⟨q,hq⟩
 have hb:=tal_bd l q
 by_cases hlt:q < l.length
 ·have hst:tal l (q + 1) = if nthI l q = 2 then tal l q + 1 else tal l q - 1:=rfl
  have hg:(l.map encI)[q]? = some [.int .i64 (nthI l q)]:=by rw [List.getElem?_map,List.getElem?_eq_getElem hlt,nthI_eq hlt]; rfl
  generalize tal l q = c at *
  generalize nthI l q = x at *
  simp (maxSteps:=999999) (disch:=first|exact {}|omega|simp) [zS,hlt,hg]
  by_cases e:x = 2
  ·rw [if_pos e] at hst
   simp (maxSteps:=999999) (disch:=first|exact {}|omega|simp) [zS,e]
   (refine ⟨⟨q + 1,by omega⟩,by (simp; try omega), ?_⟩; constructor <;> (simp (maxSteps:=999999) (disch:=first|exact {}|omega|simp) [zS,hst]) <;> (try omega))
  ·rw [if_neg e] at hst
   simp (maxSteps:=999999) (disch:=first|exact {}|omega|simp) [zS,e]
   (refine ⟨⟨q + 1,by omega⟩,by (simp; try omega), ?_⟩; constructor <;> (simp (maxSteps:=999999) (disch:=first|exact {}|omega|simp) [zS,hst]) <;> (try omega))
 ·obtain rfl:q = l.length:=by omega
  simp (maxSteps:=999999) (disch:=first|exact {}|omega|simp) [zS,hlt]
def mkB (ps:List Pt) (cs:List Cr) (k:Int):Bool:=isBr cs k || (!((kinL ps cs k).any fun x=>decide (x = 4)) && decide (excN (kinL ps cs k) = 2))
theorem c57 {ps:List Pt} {cs:List Cr} (hv:vB ps cs = true) {k:Nat} (hk:k < ps.length):PC E 57 [.agg (encPa ps cs),.i (.int .i64 k)] [.i (.bool (mkB ps cs k))]:=by
 obtain ⟨-,-,h40,h70⟩:=vB_facts hv
 have hl:=kin_le (ps:=ps) (cs:=cs) k
 have hd:mkB ps cs k = (isBr cs k || (!((kinL ps cs k).any fun x=>decide (x = 4)) && decide (excN (kinL ps cs k) = 2))):=rfl
 have hK:=c59 hv hk
 have hB:=c118 ps cs k (by omega)
 generalize kinL ps cs k = L at *
 have hC:=c119 L 4 (by omega)
 have hX:=c120 L (by omega)
 generalize (L.any fun x=>decide (x = 4)) = o at *
 generalize excN L = x at *
 generalize isBr cs k = b at *
 generalize mkB ps cs k = r at *
 subst hd
 have tL:List.take L.length (L.map encI) = L.map encI:=List.take_of_length_le (by simp)
 refine zP hE Proofs.Tryz.func57 Proofs.Tryz.ntmps57 rfl rfl ?_
 simp (maxSteps:=999999) (disch:=first|exact {}|omega|simp) [zS,encPa]
 refine zC (hK) ?_
 simp (maxSteps:=999999) (disch:=first|exact {}|omega|simp) [zS,encPa]
 refine zC (hB) ?_
 cases b
 ·simp (maxSteps:=999999) (disch:=first|exact {}|omega|simp) [zS,tL]
  refine zC (hC) ?_
  cases o
  ·simp (maxSteps:=999999) (disch:=first|exact {}|omega|simp) [zS,tL]
   refine zC (hX) ?_
   simp (maxSteps:=999999) (disch:=first|exact {}|omega|simp) [zS]
  ·simp (maxSteps:=999999) (disch:=first|exact {}|omega|simp) [zS]
 ·simp (maxSteps:=999999) (disch:=first|exact {}|omega|simp) [zS]
theorem c55 {ps:List Pt} {cs:List Cr} (hv:vB ps cs = true) {k:Nat} (hk:k < ps.length):PC E 55 [.i (.ptr (encPa ps cs)),.i (.sl ((arrI ps cs).map encI)),.i (.int .i64 k)] [.i (.bool (mkB ps cs k))]:=by
 obtain ⟨-,-,h40,h70⟩:=vB_facts hv
 have hl:=kin_le (ps:=ps) (cs:=cs) k
 have hd:mkB ps cs k = (isBr cs k || (!((kinL ps cs k).any fun x=>decide (x = 4)) && decide (excN (kinL ps cs k) = 2))):=rfl
 have hK:=c58 hv hk
 have hS:arrS ps cs = arrI ps cs:=by unfold arrS; rw [if_pos hv]
 have hal:=arrS_le (ps:=ps) (cs:=cs) (by omega)
 have ha:=isBr_arr hv k hk
 rw [hS] at hal ha
 have hH:=h116 (arrI ps cs) (k:Int) (by omega)
 rw [← ha] at hH
 have h2:=kin_two (ps:=ps) (cs:=cs) hv (k:=k)
 clear ha hS
 generalize arrI ps cs = A at *
 generalize kinL ps cs k = L at *
 have hC:=h116 L 4 (by omega)
 have hX:=c117 L (by omega)
 have he:=fun h=>excN_tal (L:=L) h
 have tb:=tal_bd L L.length
 generalize (L.any fun x=>decide (x = 4)) = o at *
 generalize excN L = x at *
 generalize isBr cs k = b at *
 generalize tal L L.length = t at *
 generalize mkB ps cs k = r at *
 subst hd
 have tL:List.take L.length (L.map encI) = L.map encI:=List.take_of_length_le (by simp)
 refine zP hE Proofs.Tryz.func55 Proofs.Tryz.ntmps55 rfl rfl ?_
 simp (maxSteps:=999999) (disch:=first|exact {}|omega|simp) [zS]
 refine zC (hH) ?_
 cases b
 ·simp (maxSteps:=999999) (disch:=first|exact {}|omega|simp) [zS]
  refine zC (hK) ?_
  simp (maxSteps:=999999) (disch:=first|exact {}|omega|simp) [zS,tL]
  refine zC (hX) ?_
  simp (maxSteps:=999999) (disch:=first|exact {}|omega|simp) [zS,tL]
  refine zC (hC) ?_
  cases o
  ·have e:=he (h2 rfl rfl)
   by_cases g1:t = 2
   ·have e3:x = 2:=by rw [e]; split <;> omega
    simp (maxSteps:=999999) (disch:=first|exact {}|omega|simp) [zS,g1,e3]
   ·by_cases g2:t = -2
    ·have e3:x = 2:=by rw [e]; split <;> omega
     simp (maxSteps:=999999) (disch:=first|exact {}|omega|simp) [zS,g2,e3]
    ·have e3:¬ x = 2:=by rw [e]; split <;> omega
     simp (maxSteps:=999999) (disch:=first|exact {}|omega|simp) [zS,g1,g2,e3]
  ·simp (maxSteps:=999999) (disch:=first|exact {}|omega|simp) [zS]
 ·simp (maxSteps:=999999) (disch:=first|exact {}|omega|simp) [zS]
noncomputable def mkS (ps:List Pt) (cs:List Cr) (k:Int):Bool:=okK ps cs k && mkB ps cs k
theorem c22 (ps:List Pt) (cs:List Cr) (k:Int) (h:(ps.length:Int) ≤ 1048576) (hc:(cs.length:Int) ≤ 1048576):PC E 22 [.agg (encPa ps cs),.i (.int .i64 k)] [.i (.bool (mkS ps cs k))]:=by
 have hd:mkS ps cs k = (okK ps cs k && mkB ps cs k):=rfl
 refine zP hE Proofs.Tryz.func22 Proofs.Tryz.ntmps22 rfl rfl ?_
 simp (maxSteps:=999999) (disch:=first|exact {}|omega|simp) [zS,encPa]
 refine zC (c56 ps cs k h hc) ?_
 by_cases hp:okK ps cs k = true
 ·have e0:=codeK_ok.2 hp
  rw [hp] at hd
  obtain ⟨hv,n,rfl,hn⟩:=okK_nat hp
  simp (maxSteps:=999999) (disch:=first|exact {}|omega|simp) [zS,e0,encPa]
  refine zC (c57 hv hn) ?_
  simp (maxSteps:=999999) (disch:=first|exact {}|omega|simp) [zS,hd]
 ·have e0:¬ codeK ps cs k = 0:=fun e=>hp (codeK_ok.1 e)
  have e1:okK ps cs k = false:=by simpa using hp
  rw [e1] at hd
  simp (maxSteps:=999999) (disch:=first|exact {}|omega|simp) [zS,e0,hd]
theorem c21 (ps:List Pt) (cs:List Cr) (k:Int) (h:(ps.length:Int) ≤ 1048576) (hc:(cs.length:Int) ≤ 1048576):PC E 21 [.agg (encPa ps cs),.i (.int .i64 k)] [.i (.bool (mkS ps cs k))]:=by
 have hd:mkS ps cs k = (okK ps cs k && mkB ps cs k):=rfl
 refine zP hE Proofs.Tryz.func21 Proofs.Tryz.ntmps21 rfl rfl ?_
 simp (maxSteps:=999999) (disch:=first|exact {}|omega|simp) [zS,encPa]
 refine zC (c54 ps cs k h hc) ?_
 by_cases hp:okK ps cs k = true
 ·have e0:=codeK_ok.2 hp
  rw [hp] at hd
  have e1:askR ps cs k = arrI ps cs:=by unfold askR; rw [if_pos hp]
  obtain ⟨hv,n,rfl,hn⟩:=okK_nat hp
  have tA:List.take (arrI ps cs).length ((arrI ps cs).map encI) = (arrI ps cs).map encI:=List.take_of_length_le (by simp)
  simp (maxSteps:=999999) (disch:=first|exact {}|omega|simp) [zS,e0,e1,encPa,tA]
  refine zC (c55 hv hn) ?_
  simp (maxSteps:=999999) (disch:=first|exact {}|omega|simp) [zS,hd]
 ·have e0:¬ codeK ps cs k = 0:=fun e=>hp (codeK_ok.1 e)
  have e1:okK ps cs k = false:=by simpa using hp
  rw [e1] at hd
  simp (maxSteps:=999999) (disch:=first|exact {}|omega|simp) [zS,e0,hd]
theorem c4 (ps:List Pt) (cs:List Cr) (k:Int) (h:ps.length ≤ maxLen) (hc:cs.length ≤ maxLen):PC E 4 [.agg (encPa ps cs),.i (.int .i64 k)] [.i (.bool true)]:=by
 have m:maxLen = 9223372036854775807:=by decide
 refine zP hE Proofs.Tryz.func4 Proofs.Tryz.ntmps4 rfl rfl ?_
 have hln:(encPa ps cs).length = 2:=rfl
 simp (maxSteps:=999999) (disch:=first|exact {}|omega|simp) [zS,hln]
 refine zC (c12 ps cs (by omega) (by omega)) ?_
 simp (maxSteps:=999999) (disch:=first|exact {}|omega|simp) [zS,hln]
 by_cases hle:(ps.length:Int) + cs.length ≤ 1048576
 rotate_left
 ·simp (maxSteps:=999999) (disch:=first|exact {}|omega|simp) [zS,hle,hln]
 have hA:=c14 ps cs (by omega) (by omega)
 have hS:=c21 ps cs k (by omega) (by omega)
 have hI:=c22 ps cs k (by omega) (by omega)
 have hQ:=c17 ps cs (by omega) (by omega)
 generalize encPa ps cs = e at *
 have tke:List.take 2 e = e:=List.take_of_length_le (by omega)
 have tkd:List.drop 2 e = []:=List.drop_of_length_le (by omega)
 generalize mkS ps cs k = v at *
 have e0:¬ ((1048576:Int) - ps.length - cs.length < 0):=by omega
 simp (maxSteps:=999999) (disch:=first|exact {}|omega|simp) [zS,hle,e0,hln,tke,tkd]
 refine zC (hA) ?_
 simp (maxSteps:=999999) (disch:=first|exact {}|omega|simp) [zS,hln,tke,tkd]
 refine zC (hS) ?_
 simp (maxSteps:=999999) (disch:=first|exact {}|omega|simp) [zS,hln,tke,tkd]
 refine zC (hA) ?_
 simp (maxSteps:=999999) (disch:=first|exact {}|omega|simp) [zS,hln,tke,tkd]
 refine zC (hI) ?_
 simp (maxSteps:=999999) (disch:=first|exact {}|omega|simp) [zS,hln,tke,tkd]
 refine zC (hA) ?_
 simp (maxSteps:=999999) (disch:=first|exact {}|omega|simp) [zS,hln,tke,tkd]
 refine zC (hQ) ?_
 simp (maxSteps:=999999) (disch:=first|exact {}|omega|simp) [zS,hln,tke,tkd]
end Go.Vai
