/- Texts of this claim: Zw5, Zq23, Zq24. -/
import Derived.Test.YtmgdmldhgphnmaaGreatDoorUb52
import Derived.Test.YtmgdmldhgphnmaaGreatDoorUb48
set_option linter.unusedVariables false
set_option linter.unusedSimpArgs false
set_option maxHeartbeats 8000000
set_option maxRecDepth 20000
namespace Go.Vai
def oneI (v:Int) (c:Cr):List Int:=if c.k = 1 then (if c.a = v then [c.b] else if c.b = v then [c.a] else []) else []
def nbI (l:List Cr) (v:Int):List Int:=l.flatMap (oneI v)
theorem nbI_snoc {cs:List Cr} {k:Nat} (h:k < cs.length) (v:Int):nbI (cs.take (k + 1)) v = nbI (cs.take k) v ++ oneI v (getK cs k):=by
 rw [List.take_succ_eq_append_getElem h,(getK_get h).2,nbI,List.flatMap_append]; simp [nbI]
theorem oneI_len (v:Int) (c:Cr):(oneI v c).length ≤ 1:=by
 unfold oneI; split <;> (try split) <;> (try split) <;> simp
theorem nbI_len (v:Int):∀ l:List Cr,(nbI l v).length ≤ l.length
 | []=>by simp [nbI]
 | c :: l=>by
  have h1:=nbI_len v l
  have h2:=oneI_len v c
  simp only [nbI,List.flatMap_cons,List.length_append,List.length_cons] at h1 ⊢
  omega
theorem nbI_nat {n:Nat} (v:Nat):∀ {cs:List Cr},(∀ c ∈ cs,Cin n c) → nbI cs v = (nbL cs v).map fun x:Nat=>(x:Int)
 | [],_=>rfl
 | c :: l,h=>by
  have ih:=nbI_nat v (cs:=l) fun d hd=>h d (by simp [hd])
  obtain ⟨a0,ab,bn⟩:=h c (by simp)
  rw [nbL_cons,List.map_append,← ih]
  show oneI v c ++ nbI l v = _
  congr 1
  unfold oneI oneL
  by_cases hk:c.k = 1
  ·simp only [hk,if_true]
   by_cases h1:c.a = v
   ·rw [if_pos h1,if_pos (show c.a.toNat = v by omega)]; simp; omega
   ·rw [if_neg h1,if_neg (show ¬ c.a.toNat = v by omega)]
    by_cases h2:c.b = v
    ·rw [if_pos h2,if_pos (show c.b.toNat = v by omega)]; simp; omega
    ·rw [if_neg h2,if_neg (show ¬ c.b.toNat = v by omega)]; rfl
  ·simp [hk]
structure BrI (w0:World) (F:Nat → Prop) (cs:List Cr) (k:Nat) (a:Act) (w:World) (z1:Base) (F1:Nat → Prop) (b base:Nat) (es:Array MapEntry) (clock:Nat):Prop where
 ctx:Ctx E z1 F1
 back:Back (base0 w0) F z1 F1
 fits:Fits z1 F1 98 ⟨[(4,.i (.raw (.map (some b)))),(5,.i (.int .i64 (bcnt (cs.take k)))),(14,.i (.sl (cs.map encK))),(15,.i (.int .i64 cs.length)),(16,.i (.int .i64 k))],[]⟩ a w
 grp:GrpE z1.w 2 base b es clock (nbI (cs.take k))
 out:Out (base0 w0) z1 F1 (GBlk b es)
 bs:base ≤ z1.w.heap.size
theorem fits_bool {z:Base} {F0:Nat → Prop} {n:Nat} {S:St} {a:Act} {w:World} (h:Fits z F0 n S a w) {t:Nat} {b:Bool} (ht:look S.T t = some (.i (.bool b))):a.eval (.tmp t) = .bool b:=by
 obtain ⟨F,ρ,hf⟩:=h
 exact (hf.tmps t _ ht).bool_inv
theorem c135 (ps:List Pt) (cs:List Cr) (hnm:nmsOk ps cs = true) (hp:(ps.length:Int) ≤ 1048576) (hc:(cs.length:Int) ≤ 1048576) :
  PC E 135 [.agg (encPa ps cs)] [.own 1 ((rndI cs).map encI),.i (.bool (okR cs))]:=by
 have hcin:=nmsOk_cin hnm
 refine law_start hE Proofs.Tryz.func135 rfl rfl Proofs.Tryz.ntmps135 (by kernel_rfl) (by simp) fun F w a hx hf=>?_
 refine seg hE 0 ⟨[(1,.ptr 1 0 0)],[(1,⟨2,[encPa ps cs]⟩)]⟩ hx (Back.refl _ _) hf (by kernel_rfl) (by kernel_rfl) ?_ fun a w1 hf=>?_
 ·simp (maxSteps:=999999) (disch:=first|exact {}|omega|simp) [Lw,Lm,Lt,Lo,Ln,allLen,cutC,encPa]
  exact ⟨by simp (maxSteps:=999999) (disch:=first|exact {}|omega|simp) [Lw,Lm,Lt,Lo,Ln,allLen,encPa],by simp (maxSteps:=999999) (disch:=first|exact {}|omega|simp) [Lw,Lm,Lt,Lo,Ln,allLen,encPa],by simp (maxSteps:=999999) (disch:=first|exact {}|omega|simp) [Lw,Lm,Lt,Lo,Ln,allLen]⟩
 simp only [restN]
 refine wp_seq (region_hand hE 0 (S1:=⟨[(1,.ptr 1 0 0)],[(1,⟨2,[encPa ps cs]⟩)]⟩) hx hf (by kernel_rfl) rfl rfl ?_ fun a w2 hf=>?_)
 ·show Rc E _ [] _ _
  simp (maxSteps:=999999) (disch:=first|exact {}|omega|simp) [Lw,Lm,Lt,Lo,Ln,allLen]
  exact ⟨by simp (maxSteps:=999999) (disch:=first|exact {}|omega|simp) [Lw,Lm,Lt,Lo,Ln,allLen],by simp (maxSteps:=999999) (disch:=first|exact {}|omega|simp) [Lw,Lm,Lt,Lo,Ln,allLen],by simp (maxSteps:=999999) (disch:=first|exact {}|omega|simp) [Lw,Lm,Lt,Lo,Ln,allLen]⟩
 refine Oper.wp_mono ?_ (makeMap_wp hx (Back.refl _ _) hf (d:=12) rfl rfl (by decide) 2 _)
 rintro a' w' ⟨z1,F1,b,base,hx1,hb1,hf1,hG,hO,hbs⟩
 refine ⟨z1,F1,_,⟨[(1,.ptr 1 0 0),(4,.i (.raw (.map (some b))))],[(1,⟨2,[encPa ps cs]⟩)]⟩,hx1,hf1, ?_,fun a w3 hf=>?_⟩
 ·simp (maxSteps:=999999) (disch:=first|exact {}|omega|simp) [Lw,Lm,Lt,Lo,Ln,allLen]
  exact ⟨by simp (maxSteps:=999999) (disch:=first|exact {}|omega|simp) [Lw,Lm,Lt,Lo,Ln,allLen],by simp (maxSteps:=999999) (disch:=first|exact {}|omega|simp) [Lw,Lm,Lt,Lo,Ln,allLen],by simp (maxSteps:=999999) (disch:=first|exact {}|omega|simp) [Lw,Lm,Lt,Lo,Ln,allLen]⟩
 show Code.wp _ _ _ _ _
 refine seg hE 0 ⟨[(1,.ptr 1 0 0),(4,.i (.raw (.map (some b)))),(5,.i (.int .i64 0))],[(1,⟨2,[encPa ps cs]⟩)]⟩ hx1 hb1 hf (by kernel_rfl) (by kernel_rfl) ?_ fun a w4 hf=>?_
 ·simp (maxSteps:=999999) (disch:=first|exact {}|omega|simp) [Lw,Lm,Lt,Lo,Ln,allLen,cutC]
  exact ⟨by simp (maxSteps:=999999) (disch:=first|exact {}|omega|simp) [Lw,Lm,Lt,Lo,Ln,allLen],by simp (maxSteps:=999999) (disch:=first|exact {}|omega|simp) [Lw,Lm,Lt,Lo,Ln,allLen],by simp (maxSteps:=999999) (disch:=first|exact {}|omega|simp) [Lw,Lm,Lt,Lo,Ln,allLen]⟩
 simp only [restN]
 refine wp_seq ?_
 refine segN hE 0 ⟨[(4,.i (.raw (.map (some b)))),(5,.i (.int .i64 (bcnt (cs.take 0)))),(14,.i (.sl (cs.map encK))),(15,.i (.int .i64 cs.length)),(16,.i (.int .i64 ((0:Nat):Int)))],[]⟩ hx1 hf (by kernel_rfl) (by kernel_rfl) ?_ fun a w5 hf=>?_
 ·simp (maxSteps:=999999) (disch:=first|exact {}|omega|simp) [Lw,Lm,Lt,Lo,Ln,allLen,cutC,encPa,bcnt]
  exact ⟨by simp (maxSteps:=999999) (disch:=first|exact {}|omega|simp) [Lw,Lm,Lt,Lo,Ln,allLen],by simp (maxSteps:=999999) (disch:=first|exact {}|omega|simp) [Lw,Lm,Lt,Lo,Ln,allLen],by simp (maxSteps:=999999) (disch:=first|exact {}|omega|simp) [Lw,Lm,Lt,Lo,Ln,allLen]⟩
 simp only [restN]
 refine wp_block (loop_hand (ι:={ k:Nat // k ≤ cs.length }) (fun k a w'=>∃ z1 F1 b base es clock,BrI w F cs k.1 a w' z1 F1 b base es clock) (fun k=>cs.length - k.1) ⟨0,Nat.zero_le _⟩ ⟨z1,F1,b,base,#[],0,hx1,hb1,hf,hG,hO,hbs⟩ ?_)
 clear hf hbs hO hG hf1 hb1 hx1
 rintro ⟨k,hk⟩ a w6 ⟨z1,F1,b,base,es,clock,hI⟩
 have hbl:bcnt (cs.take k) ≤ k:=by have:=bcnt_le (cs.take k); simp at this; omega
 by_cases hlt:k < cs.length
 ·obtain ⟨hg,he⟩:=getK_get hlt
  have hci:=hcin _ (List.getElem_mem hlt)
  rw [← he] at hci
  have hsn:=nbI_snoc hlt
  have hbc:=bcnt_snoc hlt
  have hln:=fun v=>nbI_len v (cs.take k)
  have hlk:(cs.take k).length = k:=by simp; omega
  clear he
  generalize getK cs k = cc at *
  obtain ⟨a0,ab,bn⟩:=hci
  refine segN hE 1 ⟨[(4,.i (.raw (.map (some b)))),(5,.i (.int .i64 (bcnt (cs.take k)))),(14,.i (.sl (cs.map encK))),(15,.i (.int .i64 cs.length)),(16,.i (.int .i64 k))],[]⟩ hI.ctx hI.fits (by kernel_rfl) (by kernel_rfl) ?_ fun a w7 hf=>?_
  ·simp (maxSteps:=999999) (disch:=first|exact {}|omega|simp) [Lw,Lm,Lt,Lo,Ln,allLen,cutC,hlt]
   exact ⟨by simp (maxSteps:=999999) (disch:=first|exact {}|omega|simp) [Lw,Lm,Lt,Lo,Ln,allLen],by simp (maxSteps:=999999) (disch:=first|exact {}|omega|simp) [Lw,Lm,Lt,Lo,Ln,allLen],by simp (maxSteps:=999999) (disch:=first|exact {}|omega|simp) [Lw,Lm,Lt,Lo,Ln,allLen]⟩
  simp only [restN]
  refine wp_seq (wp_block ?_)
  refine segN hE 1 ⟨[(4,.i (.raw (.map (some b)))),(5,.i (.int .i64 (bcnt (cs.take k)))),(7,.ptr 7 0 0),(14,.i (.sl (cs.map encK))),(15,.i (.int .i64 cs.length)),(16,.i (.int .i64 k)),(22,.i (.bool (decide (cc.k = 1))))],[(7,⟨3,[encK cc]⟩)]⟩ hI.ctx hf (by kernel_rfl) (by kernel_rfl) ?_ fun a w8 hf=>?_
  ·simp (maxSteps:=999999) (disch:=first|exact {}|omega|simp) [Lw,Lm,Lt,Lo,Ln,allLen,cutC,hlt,hg,encK]
   exact ⟨by simp (maxSteps:=999999) (disch:=first|exact {}|omega|simp) [Lw,Lm,Lt,Lo,Ln,allLen,encK],by simp (maxSteps:=999999) (disch:=first|exact {}|omega|simp) [Lw,Lm,Lt,Lo,Ln,allLen,encK],by simp (maxSteps:=999999) (disch:=first|exact {}|omega|simp) [Lw,Lm,Lt,Lo,Ln,allLen]⟩
  simp only [restN]
  by_cases hk1:cc.k = 1
  ·refine wp_cond_true (by rw [fits_bool hf rfl,decide_eq_true hk1]) ?_
   have hcr:encK cc = crow (fun f=>if f = 0 then cc.a else if f = 1 then cc.b else cc.k):=rfl
   refine wp_seq (mapApp_wp (tm:=4) (tc:=7) (d:=23) (f1:=0) (f2:=1) ⟨rfl,early_of (by kernel_rfl),.of rfl rfl rfl rfl rfl,.of rfl rfl rfl rfl rfl,.of rfl rfl rfl rfl (by kernel_rfl),.of rfl rfl rfl rfl rfl,.of rfl rfl rfl rfl rfl,.of rfl rfl rfl rfl (by kernel_rfl),.of rfl rfl rfl rfl (by kernel_rfl),.of rfl rfl rfl rfl rfl,.of rfl rfl rfl rfl (by kernel_rfl),.of rfl rfl rfl rfl (by kernel_rfl),.of rfl rfl rfl rfl (by kernel_rfl),.of rfl rfl rfl rfl (by kernel_rfl)⟩
    (.inl rfl) (.inr rfl) hI.ctx hI.back hf hI.grp hI.out hI.bs (oc:=7) (c:=fun f=>if f = 0 then cc.a else if f = 1 then cc.b else cc.k) rfl rfl rfl (fun i hi=>by match i,hi with | 0,_ | 1,_ | 2,_ | 3,_ | 4,_ | 5,_ | 6,_ | 7,_ | 8,_ | 9,_ | 10,_=>rfl) (by decide)
    (by have:=hln cc.a; show (nbI (cs.take k) cc.a).length ≤ _; omega) ?_)
   intro a w9 z2 F2 es2 clock2 hx2 hb2 hf2 hG2 hO2 hbs2
   show Code.wp _ _ _ _ _
   refine wp_seq (mapApp_wp (tm:=4) (tc:=7) (d:=34) (f1:=1) (f2:=0) ⟨rfl,early_of (by kernel_rfl),.of rfl rfl rfl rfl rfl,.of rfl rfl rfl rfl rfl,.of rfl rfl rfl rfl (by kernel_rfl),.of rfl rfl rfl rfl rfl,.of rfl rfl rfl rfl rfl,.of rfl rfl rfl rfl (by kernel_rfl),.of rfl rfl rfl rfl (by kernel_rfl),.of rfl rfl rfl rfl rfl,.of rfl rfl rfl rfl (by kernel_rfl),.of rfl rfl rfl rfl (by kernel_rfl),.of rfl rfl rfl rfl (by kernel_rfl),.of rfl rfl rfl rfl (by kernel_rfl)⟩
    (.inr rfl) (.inl rfl) hx2 hb2 hf2 hG2 hO2 hbs2 (oc:=7) (c:=fun f=>if f = 0 then cc.a else if f = 1 then cc.b else cc.k) rfl rfl rfl (fun i hi=>by match i,hi with | 0,_ | 1,_ | 2,_ | 3,_ | 4,_ | 5,_ | 6,_ | 7,_ | 8,_ | 9,_ | 10,_=>rfl) (by decide)
    (by
     have h1:(if cc.b = cc.a then nbI (cs.take k) cc.a ++ [cc.b] else nbI (cs.take k) cc.b) = nbI (cs.take k) cc.b:=if_neg (by omega)
     show (if cc.b = cc.a then nbI (cs.take k) cc.a ++ [cc.b] else nbI (cs.take k) cc.b).length ≤ _
     rw [h1]; have:=hln cc.b; omega) ?_)
   intro a w10 z3 F3 es3 clock3 hx3 hb3 hf3 hG3 hO3 hbs3
   show Code.wp _ _ _ _ _
   refine pieceN hE (normQ ⟨[(4,.i (.raw (.map (some b)))),(5,.i (.int .i64 (bcnt (cs.take (k + 1))))),(14,.i (.sl (cs.map encK))),(15,.i (.int .i64 cs.length)),(16,.i (.int .i64 k))],[]⟩) hx3 hf3 (by kernel_rfl) ?_ fun e s a' w' hq hf'=>?_
   ·simp (maxSteps:=999999) (disch:=first|exact {}|omega|simp) [Lw,Lm,Lt,Lo,Ln,allLen]
    exact ⟨by simp (maxSteps:=999999) (disch:=first|exact {}|omega|simp) [Lw,Lm,Lt,Lo,Ln,allLen,hbc,hk1],by simp (maxSteps:=999999) (disch:=first|exact {}|omega|simp) [Lw,Lm,Lt,Lo,Ln,allLen],by simp (maxSteps:=999999) (disch:=first|exact {}|omega|simp) [Lw,Lm,Lt,Lo,Ln,allLen]⟩
   cases e with
   | normal =>
    have hff:=hf'.le hq
    show Code.wp _ _ _ _ _
    refine pieceN hE (normQ ⟨[(4,.i (.raw (.map (some b)))),(5,.i (.int .i64 (bcnt (cs.take (k + 1))))),(14,.i (.sl (cs.map encK))),(15,.i (.int .i64 cs.length)),(16,.i (.int .i64 ((k + 1:Nat):Int)))],[]⟩) hx3 hff (by kernel_rfl) ?_ fun e s a' w' hq hf'=>?_
    ·simp (maxSteps:=999999) (disch:=first|exact {}|omega|simp) [Lw,Lm,Lt,Lo,Ln,allLen]
     exact ⟨by simp (maxSteps:=999999) (disch:=first|exact {}|omega|simp) [Lw,Lm,Lt,Lo,Ln,allLen],by simp (maxSteps:=999999) (disch:=first|exact {}|omega|simp) [Lw,Lm,Lt,Lo,Ln,allLen],by simp (maxSteps:=999999) (disch:=first|exact {}|omega|simp) [Lw,Lm,Lt,Lo,Ln,allLen]⟩
    cases e with
    | normal =>
     have hnb:(fun v=>if v = cc.b then (if cc.b = cc.a then nbI (cs.take k) cc.a ++ [cc.b] else nbI (cs.take k) cc.b) ++ [cc.a] else if v = cc.a then nbI (cs.take k) cc.a ++ [cc.b] else nbI (cs.take k) v) = nbI (cs.take (k + 1)):=by
      funext v
      rw [hsn]
      unfold oneI
      rw [if_pos hk1]
      by_cases v1:v = cc.b
      ·subst v1
       have n1:¬ cc.b = cc.a:=by omega
       have n2:¬ cc.a = cc.b:=by omega
       simp [n1,n2]
      ·have v1':¬ cc.b = v:=fun e=>v1 e.symm
       by_cases v2:v = cc.a
       ·subst v2; simp [v1]
       ·have v2':¬ cc.a = v:=fun e=>v2 e.symm
        simp [v1,v2,v1',v2']
     have hG4:GrpE z3.w 2 base b es3 clock3 (nbI (cs.take (k + 1))):=by rw [← hnb]; exact hG3
     exact ⟨⟨k + 1,by omega⟩,by show cs.length - (k + 1) < cs.length - k; omega,z3,F3,b,base,es3,clock3,hx3,hb3,hf'.le hq,hG4,hO3,hbs3⟩
    | _=>exact hq.elim
   | _=>exact hq.elim
  ·refine wp_cond_false (by rw [fits_bool hf rfl,decide_eq_false hk1]) ?_
   refine wp_skip ?_
   show Code.wp _ _ _ _ _
   refine pieceN hE (normQ ⟨[(4,.i (.raw (.map (some b)))),(5,.i (.int .i64 (bcnt (cs.take (k + 1))))),(14,.i (.sl (cs.map encK))),(15,.i (.int .i64 cs.length)),(16,.i (.int .i64 ((k + 1:Nat):Int)))],[]⟩) hI.ctx hf (by kernel_rfl) ?_ fun e s a' w' hq hf'=>?_
   ·simp (maxSteps:=999999) (disch:=first|exact {}|omega|simp) [Lw,Lm,Lt,Lo,Ln,allLen]
    exact ⟨by simp (maxSteps:=999999) (disch:=first|exact {}|omega|simp) [Lw,Lm,Lt,Lo,Ln,allLen,hbc,hk1],by simp (maxSteps:=999999) (disch:=first|exact {}|omega|simp) [Lw,Lm,Lt,Lo,Ln,allLen],by simp (maxSteps:=999999) (disch:=first|exact {}|omega|simp) [Lw,Lm,Lt,Lo,Ln,allLen]⟩
   cases e with
   | normal =>
    have hG4:GrpE z1.w 2 base b es clock (nbI (cs.take (k + 1))):=by
     have:nbI (cs.take (k + 1)) = nbI (cs.take k):=by
      funext v; rw [hsn]; unfold oneI; rw [if_neg hk1,List.append_nil]
     rw [this]; exact hI.grp
    exact ⟨⟨k + 1,by omega⟩,by show cs.length - (k + 1) < cs.length - k; omega,z1,F1,b,base,es,clock,hI.ctx,hI.back,hf'.le hq,hG4,hI.out,hI.bs⟩
   | _=>exact hq.elim
 ·obtain rfl:k = cs.length:=by omega
  rw [List.take_length] at hbl
  have hI':=hI
  refine pieceN hE (fun e s=>e = .exit 0 ∧ Le s ⟨[(4,.i (.raw (.map (some b)))),(5,.i (.int .i64 (bcnt cs)))],[]⟩) hI.ctx hI.fits (by kernel_rfl) ?_ fun e s a' w' hq hf'=>?_
  ·simp (maxSteps:=999999) (disch:=first|exact {}|omega|simp) [Lw,Lm,Lt,Lo,Ln,allLen]
   exact ⟨by simp (maxSteps:=999999) (disch:=first|exact {}|omega|simp) [Lw,Lm,Lt,Lo,Ln,allLen],by simp (maxSteps:=999999) (disch:=first|exact {}|omega|simp) [Lw,Lm,Lt,Lo,Ln,allLen],by simp (maxSteps:=999999) (disch:=first|exact {}|omega|simp) [Lw,Lm,Lt,Lo,Ln,allLen]⟩
  obtain ⟨rfl,hle⟩:=hq
  have hff:=hf'.le hle
  have hGr:=hI.grp
  rw [List.take_length] at hGr
  obtain ⟨z2,F2,hx2,hb2,hf2⟩:=freeze_map hI.ctx hI.back hff hGr hI.out (tm:=4) rfl
  show Code.wp _ _ _ _ _
  refine segEnd hE hx2 hb2 hf2 (by kernel_rfl) ?_
  clear hf2 hb2 hx2 hGr hff hle hf' hI' hI
  have hN0:nbI cs 0 = (nbL cs 0).map fun x:Nat=>(x:Int):=nbI_nat 0 hcin
  have hl0:(nbI cs 0).length = (nbL cs 0).length:=by rw [hN0]; simp
  by_cases h2:(nbL cs 0).length = 2
  rotate_left
  ·have hno:brdM cs = 0:=brdM_no fun ⟨m,hm⟩=>h2 (hm.d 0 hm.m0).1
   have e1:rndI cs = []:=by unfold rndI; rw [hno]; rfl
   have e2:okR cs = false:=by unfold okR; rw [hno]; rfl
   have h2':¬ ((nbL cs 0).length:Int) = 2:=by omega
   simp (maxSteps:=999999) (disch:=first|exact {}|omega|simp) [Lw,Lm,Lt,Lo,Ln,allLen,hl0,h2,h2',e1,e2]
  obtain ⟨x,y,hxy⟩:=Wk.two h2
  have hv0:nbI cs 0 = [(x:Int),(y:Int)]:=by rw [hN0,hxy]; rfl
  have hw1:Wk.w (nbL cs) 1 = x:=by show (nbL cs 0).getD 0 0 = x; rw [hxy]; rfl
  have hw0:Wk.w (nbL cs) 0 = 0:=rfl
  have G:=nb_gr hnm
  have hn:0 < ps.length:=by
   have:=G.bd x 0 (by rw [hxy]; simp)
   omega
  have D1:Wk.D (nbL cs) 1:=fun j hj=>by
   obtain rfl:j = 0:=by omega
   exact ⟨h2,fun h=>absurd h (by omega)⟩
  have hbl2:=bcnt_le cs
  generalize hM:(fun k=>IV.sl ((nbI cs k).map fun x=>[IV.int .i64 x])) = M
  have hM0:M 0 = .sl [[.int .i64 x],[.int .i64 y]]:=by rw [← hM]; simp [hv0]
  simp (maxSteps:=999999) (disch:=first|exact {}|omega|simp) [Lw,Lm,Lt,Lo,Ln,allLen,hM0]
  refine XL.by hE (ι:={ m:Nat // 0 < m ∧ Wk.D (nbL cs) m }) (fun p=>⟨[(4,.i (.mp M)),(5,.i (.int .i64 (bcnt cs))),(8,.own 52 0 p.1),(9,.i (.int .i64 (Wk.w (nbL cs) (p.1 - 1)))),(10,.i (.int .i64 (Wk.w (nbL cs) p.1)))],[(52,⟨1,(rngI cs p.1).map encI⟩)]⟩)
   (fun p=>bcnt cs - p.1) ⟨1,Nat.one_pos,D1⟩ ⟨by simp [hw1,hw0],by simp [rngI,hw0,encI],by simp⟩ (by kernel_rfl) ?_
  rintro ⟨m,hm0,hD⟩
  have hmb:=bck_le hnm hn hD
  have hwm:=Wk.w_bd G hn hD m (Nat.le_refl _)
  have hwp:=Wk.w_bd G hn hD (m - 1) (by omega)
  have hrl:=rngI_len cs m
  have hrt:List.take m ((rngI cs m).map encI) = (rngI cs m).map encI:=List.take_of_length_le (by simp [hrl])
  by_cases hz:Wk.w (nbL cs) m = 0
  ·have hB:Bck cs m:=⟨hm0,hD,hz⟩
   have h3:=bck_three hnm hB
   have e1:rndI cs = rngI cs m:=by unfold rndI; rw [brdM_of hB]
   have e2:okR cs = (decide ((m:Int) = bcnt cs) && decide (3 ≤ (bcnt cs:Int))):=by
    unfold okR; rw [brdM_of hB]
    by_cases q:m = bcnt cs
    ·have q2:(m:Int) = bcnt cs:=by omega
     have q3:3 ≤ (bcnt cs:Int):=by omega
     rw [decide_eq_true q,decide_eq_true q2,decide_eq_true q3,decide_eq_true hm0]
    ·have q2:¬ (m:Int) = bcnt cs:=by omega
     rw [decide_eq_false q,decide_eq_false q2]; simp
   rw [e1,e2]
   by_cases q:m = bcnt cs
   ·generalize bcnt cs = B at *
    subst q
    simp (maxSteps:=999999) (disch:=first|exact {}|omega|simp) [Lw,Lm,Lt,Lo,Ln,allLen,hz,hrt,hrl]
   ·simp (maxSteps:=999999) (disch:=first|exact {}|omega|simp) [Lw,Lm,Lt,Lo,Ln,allLen,hz,hrt,hrl,q]
  ·have hNm:nbI cs (Wk.w (nbL cs) m:Int) = (nbL cs (Wk.w (nbL cs) m)).map fun x:Nat=>(x:Int):=nbI_nat _ hcin
   have hz':¬ (Wk.w (nbL cs) m:Int) = 0:=by omega
   by_cases hd:(nbL cs (Wk.w (nbL cs) m)).length = 2
   rotate_left
   ·have hno:brdM cs = 0:=brdM_no fun ⟨j,hj⟩=>by
     rcases Nat.lt_or_ge m j with hlt | hge
     ·exact hd (hj.d m hlt).1
     ·rcases Nat.lt_or_ge j m with h' | h'
      ·exact (hD j h').2 hj.m0 hj.z
      ·obtain rfl:j = m:=by omega
       exact hz hj.z
    have e1:rndI cs = []:=by unfold rndI; rw [hno]; rfl
    have e2:okR cs = false:=by unfold okR; rw [hno]; rfl
    have hd':¬ ((nbL cs (Wk.w (nbL cs) m)).length:Int) = 2:=by omega
    have hMm:M (Wk.w (nbL cs) m:Int) = .sl ((nbL cs (Wk.w (nbL cs) m)).map fun x:Nat=>[IV.int .i64 (x:Int)]):=by rw [← hM]; simp only [hNm,List.map_map]; rfl
    simp (maxSteps:=999999) (disch:=first|exact {}|omega|simp) [Lw,Lm,Lt,Lo,Ln,allLen,hz,hz',hMm,hd,hd',e1,e2]
   obtain ⟨x',y',hxy'⟩:=Wk.two hd
   have hMm:M (Wk.w (nbL cs) m:Int) = .sl [[.int .i64 x'],[.int .i64 y']]:=by rw [← hM]; simp only [hNm,hxy']; rfl
   have D2:Wk.D (nbL cs) (m + 1):=fun j hj=>by
    by_cases e:j = m
    ·subst e; exact ⟨hd,fun _=>hz⟩
    ·exact hD j (by omega)
   have hmb2:=bck_le hnm hn D2
   have hgt:¬ ((bcnt cs:Int) < m):=by omega
   have hsn2:=rngI_snoc cs m
   have hst:Wk.w (nbL cs) (m + 1) = if x' = Wk.w (nbL cs) (m - 1) then y' else x':=by
    have:=Wk.w_step (nbL cs) (m - 1)
    rw [show m - 1 + 2 = m + 1 by omega,show m - 1 + 1 = m by omega] at this
    rw [this,Wk.step,hxy']; rfl
   have hwp2:m + 1 - 1 = m:=by omega
   by_cases hq:x' = Wk.w (nbL cs) (m - 1)
   ·rw [if_pos hq] at hst
    have hq':(x':Int) = Wk.w (nbL cs) (m - 1):=by omega
    simp (maxSteps:=999999) (disch:=first|exact {}|omega|simp) [Lw,Lm,Lt,Lo,Ln,allLen,hz,hz',hMm,hgt,hrl,hq,hq',hrt]
    (refine ⟨⟨m + 1,by omega,D2⟩,by (simp; try omega), ?_⟩; constructor <;> (simp (maxSteps:=999999) (disch:=first|exact {}|omega|simp) [Lw,Lm,Lt,Lo,Ln,allLen,hsn2,hst,hwp2,encI,hrt,hrl]) <;> (try omega))
   ·rw [if_neg hq] at hst
    have hq':¬ (x':Int) = Wk.w (nbL cs) (m - 1):=by omega
    simp (maxSteps:=999999) (disch:=first|exact {}|omega|simp) [Lw,Lm,Lt,Lo,Ln,allLen,hz,hz',hMm,hgt,hrl,hq,hq',hrt]
    (refine ⟨⟨m + 1,by omega,D2⟩,by (simp; try omega), ?_⟩; constructor <;> (simp (maxSteps:=999999) (disch:=first|exact {}|omega|simp) [Lw,Lm,Lt,Lo,Ln,allLen,hsn2,hst,hwp2,encI,hrt,hrl]) <;> (try omega))
end Go.Vai
namespace Go.Vai
theorem crs_nms (ps:List Pt) (cs:List Cr):crsOk ps cs = (nmsOk ps cs && dirsOk ps cs):=by
 rw [Bool.eq_iff_iff,Bool.and_eq_true]
 unfold crsOk nmsOk dirsOk
 simp only [List.all_eq_true,List.mem_range,decide_eq_true_eq]
 constructor
 ·intro h
  refine ⟨fun i hi=>?_,fun c hc=>?_⟩
  ·have:=h i hi
   simp only [crAt,crNum,Bool.and_eq_true] at this ⊢
   exact ⟨this.1,this.2.2⟩
  ·obtain ⟨i,hi,rfl⟩:=List.getElem_of_mem hc
   have:=h i hi
   simp only [crAt,Bool.and_eq_true,decide_eq_true_eq] at this
   rw [← (getK_get hi).2]; exact this.2.1
 ·rintro ⟨h1,h2⟩ i hi
  have q1:=h1 i hi
  have q2:=h2 _ (getK_mem hi)
  simp only [crAt,crNum,Bool.and_eq_true,decide_eq_true_eq] at q1 ⊢
  exact ⟨q1.1,q2,q1.2⟩
theorem ptsOk_vp {ps:List Pt} (h:ptsOk ps = true):∀ p ∈ ps,vP p = true:=by
 intro p hp
 obtain ⟨i,hi,rfl⟩:=List.getElem_of_mem hp
 unfold ptsOk at h
 rw [List.all_eq_true] at h
 have:=h i (List.mem_range.2 hi)
 simp only [okAt,Bool.and_eq_true] at this
 rw [nth_eq hi] at this
 exact this.1
theorem rot0_len' {l:List Pt} (h:l ≠ []):(rot0 l).length = l.length:=by
 have:least l < l.length:=leastF_lt (Nat.le_refl _) (List.length_pos_iff.2 h)
 simp [rot0]; omega
theorem polI_len {l:List Pt} (h:polI l = true):3 ≤ l.length ∧ l.length ≤ 16:=⟨(polI_poly h).2.1,(polI_poly h).2.2.1⟩
theorem nrm_eq {l:List Pt} (hv:∀ p ∈ l,vP p = true):nrmO l = if polI (rot0 l) = true then some (rot0 l) else if polI (rot0 l.reverse) = true then some (rot0 l.reverse) else none:=by
 unfold nrmO
 have hall:l.all vP = true:=List.all_eq_true.2 hv
 by_cases h16:l.length ≤ 16
 ·rw [if_pos ⟨hall,h16⟩]
 ·rw [if_neg fun e=>h16 e.2]
  have hne:l ≠ []:=by rintro rfl; simp at h16
  have h1:¬ polI (rot0 l) = true:=fun h=>by have:=polI_len h; rw [rot0_len' hne] at this; omega
  have h2:¬ polI (rot0 l.reverse) = true:=fun h=>by
   have:=polI_len h
   rw [rot0_len' (by simpa using hne)] at this
   simp at this; omega
  rw [if_neg h1,if_neg h2]
theorem bend_mem (l:List Pt):∀ k,k ≤ l.length → ∀ p ∈ bendN l k,p ∈ l
 | 0,_,p,h=>by simp [bendN] at h
 | k + 1,hk,p,h=>by
  simp only [bendN] at h
  rcases List.mem_append.1 h with h | h
  ·exact bend_mem l k (by omega) p h
  ·split at h
   ·obtain rfl:=List.mem_singleton.1 h; exact nth_mem (by omega)
   ·simp at h
noncomputable def rptC (ps:List Pt) (cs:List Cr):List Pt:=(rndI cs).map (pI ps)
noncomputable def corC (ps:List Pt) (cs:List Cr):List Pt:=bendN (rptC ps cs) (rptC ps cs).length
noncomputable def papO (ps:List Pt) (cs:List Cr):Option (List Pt):=if okR cs = true then nrmO (corC ps cs) else none
theorem rnd_in {ps:List Pt} {cs:List Cr} (hnm:nmsOk ps cs = true) (ho:okR cs = true):(∀ i ∈ rndI cs,0 ≤ i ∧ i < ps.length) ∧ (rndI cs).length ≤ cs.length ∧ 0 < (rndI cs).length:=by
 have hx:∃ m,Bck cs m:=Classical.byContradiction fun hno=>by
  unfold okR at ho
  rw [brdM_no hno] at ho
  simp at ho
 obtain ⟨m,hm⟩:=hx
 have hn:0 < ps.length:=by
  have h0:=(hm.d 0 hm.m0).1
  obtain ⟨x,y,e⟩:=Wk.two h0
  have:=(nb_gr hnm).bd x 0 (by show x ∈ nbL cs (Wk.w (nbL cs) 0); rw [e]; simp)
  omega
 have hb:=bck_le hnm hn hm.d
 have hbl:=bcnt_le cs
 unfold rndI
 rw [brdM_of hm]
 refine ⟨fun i hi=>?_,by rw [rngI_len]; omega,by rw [rngI_len]; exact hm.m0⟩
 unfold rngI at hi
 obtain ⟨k,hk,rfl⟩:=List.mem_map.1 hi
 have hk':=List.mem_range.1 hk
 have:=Wk.w_bd (nb_gr hnm) hn hm.d k (by omega)
 omega
theorem rpt_mem {ps:List Pt} {cs:List Cr} (hnm:nmsOk ps cs = true) (ho:okR cs = true):∀ p ∈ rptC ps cs,p ∈ ps:=by
 intro p hp
 obtain ⟨i,hi,rfl⟩:=List.mem_map.1 hp
 have:=(rnd_in hnm ho).1 i hi
 exact nth_mem (by omega)
theorem cor_mem {ps:List Pt} {cs:List Cr} (hnm:nmsOk ps cs = true) (ho:okR cs = true):∀ p ∈ corC ps cs,p ∈ ps:=fun p hp=>rpt_mem hnm ho p (bend_mem _ _ (Nat.le_refl _) p hp)
theorem nrm_pol {l m:List Pt} (h:nrmO l = some m):polI m = true:=by
 unfold nrmO at h
 split at h <;> (try (simp at h; done))
 split at h
 ·rename_i hp; obtain rfl:=Option.some.inj h; exact hp
 ·split at h
  ·rename_i hp; obtain rfl:=Option.some.inj h; exact hp
  ·simp at h
noncomputable def vB (ps:List Pt) (cs:List Cr):Bool:=lstB ps cs && (dirsOk ps cs && (planB ps cs && (conB ps.length cs && ((papO ps cs).isSome && insAll ps ((papO ps cs).getD []) cs))))
theorem lst_split {ps:List Pt} {cs:List Cr}:(lstB ps cs && dirsOk ps cs) = (arP ps && arC ps cs):=by
 unfold lstB arP arC
 rw [crs_nms,Bool.eq_iff_iff]
 simp only [Bool.and_eq_true]
 constructor <;> rintro ⟨h1,h2⟩ <;> simp_all
theorem c130 (ps:List Pt) (cs:List Cr) (hnm:nmsOk ps cs = true) (hv:∀ p ∈ ps,vP p = true) (h:(ps.length:Int) ≤ 1048576) (hc:(cs.length:Int) ≤ 1048576) :
  PC E 130 [.agg (encPa ps cs)] [.own 6 (encPs ((papO ps cs).getD [])),.i (.bool (papO ps cs).isSome)]:=by
 refine PC_start hE Proofs.Tryz.func130 rfl rfl Proofs.Tryz.ntmps130 (by kernel_rfl) (by kernel_rfl) (by simp) ?_
 simp (maxSteps:=999999) (disch:=first|exact {}|omega|simp) [Lw,Lm,Lt,Lo,Ln,allLen,encPa]
 have hb:=c135 ps cs hnm (by omega) (by omega)
 unfold encPa at hb
 refine CallK.of (hb) (by first | exact .inl rfl | exact .inr (by simp)) (by simp) ?_
 simp (maxSteps:=999999) (disch:=first|exact {}|omega|simp) [Lw,Lm,Lt,Lo,Ln,allLen]
 by_cases ho:okR cs = true
 ·obtain ⟨r1,r2,r3⟩:=rnd_in hnm ho
  have hp:papO ps cs = nrmO (corC ps cs):=by unfold papO; rw [if_pos ho]
  have hpo:=c138 ps cs (rndI cs) r1 (by omega)
  have hl1:(rptC ps cs).length = (rndI cs).length:=by simp [rptC]
  have hbl:=bendN_len (rptC ps cs) (rptC ps cs).length
  have hcl:(corC ps cs).length ≤ (rptC ps cs).length:=hbl
  have hst:=c137 (rptC ps cs) (fun p hp=>vP_bound (hv p (rpt_mem hnm ho p hp))) (by omega)
  have hnp:=c231 (corC ps cs) (by omega)
  unfold encPa at hpo
  rw [hp]
  have tX:List.take (rndI cs).length ((rndI cs).map encI) = (rndI cs).map encI:=List.take_of_length_le (by simp)
  have tY:List.take (rptC ps cs).length (encPs (rptC ps cs)) = encPs (rptC ps cs):=List.take_of_length_le (by simp)
  have tY':List.take (rndI cs).length (encPs (rptC ps cs)) = encPs (rptC ps cs):=List.take_of_length_le (by simp [hl1])
  have tZ:List.take (corC ps cs).length (encPs (corC ps cs)) = encPs (corC ps cs):=List.take_of_length_le (by simp)
  simp (maxSteps:=999999) (disch:=first|exact {}|omega|simp) [Lw,Lm,Lt,Lo,Ln,allLen,ho,tX]
  refine CallK.of (hpo) (by first | exact .inl rfl | exact .inr (by simp)) (by simp) ?_
  have e1:(rndI cs).map (pI ps) = rptC ps cs:=rfl
  simp (maxSteps:=999999) (disch:=first|exact {}|omega|simp) [Lw,Lm,Lt,Lo,Ln,allLen,e1,hl1,tY,tY']
  refine CallK.of (hst) (by first | exact .inl rfl | exact .inr (by simp)) (by simp) ?_
  have e2:bendN (rptC ps cs) (rptC ps cs).length = corC ps cs:=rfl
  simp (maxSteps:=999999) (disch:=first|exact {}|omega|simp) [Lw,Lm,Lt,Lo,Ln,allLen,e2,tZ]
  refine CallK.of (hnp) (by first | exact .inl rfl | exact .inr (by simp)) (by simp) ?_
  simp (maxSteps:=999999) (disch:=first|exact {}|omega|simp) [Lw,Lm,Lt,Lo,Ln,allLen]
  exact (List.take_of_length_le (by simp)).symm
 ·have hp:papO ps cs = none:=by unfold papO; rw [if_neg ho]
  simp (maxSteps:=999999) (disch:=first|exact {}|omega|simp) [Lw,Lm,Lt,Lo,Ln,allLen,ho,hp,encPs]
theorem c57 (ps:List Pt) (cs:List Cr) (h:(ps.length:Int) ≤ 1048576) (hc:(cs.length:Int) ≤ 1048576):PC E 57 [.agg (encPa ps cs)] [.i (.bool (vB ps cs))]:=by
 have hsp:=lst_split (ps:=ps) (cs:=cs)
 have hvB:vB ps cs = ((lstB ps cs && dirsOk ps cs) && (planB ps cs && (conB ps.length cs && ((papO ps cs).isSome && insAll ps ((papO ps cs).getD []) cs)))):=by unfold vB; rw [Bool.and_assoc]
 rw [hsp] at hvB
 have k1:=c127 ps cs (by omega)
 have k2:=fun hv=>c128 ps cs hv (by omega) (by omega)
 have k3:=fun hv hcin=>c129 ps cs hv hcin (by omega)
 have k4:=fun hcin=>c106 ps cs hcin (by omega) (by omega)
 have k5:=fun hnm hv=>c130 ps cs hnm hv h hc
 refine PC_start hE Proofs.Tryz.func57 rfl rfl Proofs.Tryz.ntmps57 (by kernel_rfl) (by kernel_rfl) (by simp) ?_
 have hen:encPa ps cs = [.sl (encPs ps),.sl (cs.map encK)]:=rfl
 simp (maxSteps:=999999) (disch:=first|exact {}|omega|simp) [Lw,Lm,Lt,Lo,Ln,allLen,hen]
 refine CallK.of (k1) (by first | exact .inl rfl | exact .inr (by simp)) (by simp) ?_
 simp (maxSteps:=999999) (disch:=first|exact {}|omega|simp) [Lw,Lm,Lt,Lo,Ln,allLen]
 by_cases h1:arP ps = true
 rotate_left
 ·have e:arP ps = false:=by simpa using h1
  have:vB ps cs = false:=by rw [hvB,e]; rfl
  simp (maxSteps:=999999) (disch:=first|exact {}|omega|simp) [Lw,Lm,Lt,Lo,Ln,allLen,e,this]
 have hpts:ptsOk ps = true:=by unfold arP at h1; rw [Bool.and_eq_true] at h1; exact h1.1
 have hvp:=ptsOk_vp hpts
 have hpv:∀ p ∈ ps,PV p:=fun p hp=>vP_bound (hvp p hp)
 simp (maxSteps:=999999) (disch:=first|exact {}|omega|simp) [Lw,Lm,Lt,Lo,Ln,allLen,h1,hen]
 refine CallK.of (k2 hpv) (by first | exact .inl rfl | exact .inr (by simp)) (by simp) ?_
 simp (maxSteps:=999999) (disch:=first|exact {}|omega|simp) [Lw,Lm,Lt,Lo,Ln,allLen]
 by_cases h2:arC ps cs = true
 rotate_left
 ·have e:arC ps cs = false:=by simpa using h2
  have:vB ps cs = false:=by rw [hvB,e]; simp
  simp (maxSteps:=999999) (disch:=first|exact {}|omega|simp) [Lw,Lm,Lt,Lo,Ln,allLen,e,this]
 have hnm:nmsOk ps cs = true:=by
  unfold arC at h2
  rw [Bool.and_eq_true,crs_nms,Bool.and_eq_true] at h2
  exact h2.1.1
 have hcin:=nmsOk_cin hnm
 simp (maxSteps:=999999) (disch:=first|exact {}|omega|simp) [Lw,Lm,Lt,Lo,Ln,allLen,h2,hen]
 refine CallK.of (k3 hpv hcin) (by first | exact .inl rfl | exact .inr (by simp)) (by simp) ?_
 simp (maxSteps:=999999) (disch:=first|exact {}|omega|simp) [Lw,Lm,Lt,Lo,Ln,allLen]
 by_cases h3:planB ps cs = true
 rotate_left
 ·have e:planB ps cs = false:=by simpa using h3
  have:vB ps cs = false:=by rw [hvB,e]; simp
  simp (maxSteps:=999999) (disch:=first|exact {}|omega|simp) [Lw,Lm,Lt,Lo,Ln,allLen,e,this]
 simp (maxSteps:=999999) (disch:=first|exact {}|omega|simp) [Lw,Lm,Lt,Lo,Ln,allLen,h3,hen]
 refine CallK.of (k4 hcin) (by first | exact .inl rfl | exact .inr (by simp)) (by simp) ?_
 simp (maxSteps:=999999) (disch:=first|exact {}|omega|simp) [Lw,Lm,Lt,Lo,Ln,allLen]
 by_cases h4:conB ps.length cs = true
 rotate_left
 ·have e:conB ps.length cs = false:=by simpa using h4
  have:vB ps cs = false:=by rw [hvB,e]; simp
  simp (maxSteps:=999999) (disch:=first|exact {}|omega|simp) [Lw,Lm,Lt,Lo,Ln,allLen,e,this]
 simp (maxSteps:=999999) (disch:=first|exact {}|omega|simp) [Lw,Lm,Lt,Lo,Ln,allLen,h4,hen]
 refine CallK.of (k5 hnm hvp) (by first | exact .inl rfl | exact .inr (by simp)) (by simp) ?_
 have hvB2:vB ps cs = ((papO ps cs).isSome && insAll ps ((papO ps cs).getD []) cs):=by rw [hvB,h1,h2,h3,h4]; rfl
 clear k1 k2 k3 k4 k5 hsp hvB
 cases hpa:papO ps cs with
 | none =>
  rw [hpa] at hvB2
  simp (maxSteps:=999999) (disch:=first|exact {}|omega|simp) [Lw,Lm,Lt,Lo,Ln,allLen,hvB2,encPs]
 | some paper =>
  rw [hpa] at hvB2
  simp only [Option.isSome_some,Option.getD_some,Bool.true_and] at hvB2
  have hpo:polI paper = true:=by
   unfold papO at hpa
   split at hpa
   ·exact nrm_pol hpa
   ·simp at hpa
  obtain ⟨hPo,hn3,hn16,hpav⟩:=polI_poly hpo
  have hvpa:∀ p ∈ paper,PV p:=fun p hp=>vP_bound (hpav p hp)
  have tX:List.take paper.length (encPs paper) = encPs paper:=List.take_of_length_le (by simp)
  simp (maxSteps:=999999) (disch:=first|exact {}|omega|simp) [Lw,Lm,Lt,Lo,Ln,allLen,hen]
  refine XL.by hE (ι:={ k:Nat // k ≤ cs.length ∧ ∀ j,j < k → inC ps paper (getK cs j) = true }) (fun k=>⟨[(1,.ptr 1 0 0),(3,.i (.sl (encPs paper))),(35,.i (.sl (cs.map encK))),(36,.i (.int .i64 cs.length)),(37,.i (.int .i64 k.1))],[(1,⟨2,[encPa ps cs]⟩)]⟩)
   (fun k=>cs.length - k.1) ⟨0,Nat.zero_le _,fun j hj=>absurd hj (Nat.not_lt_zero _)⟩ ⟨by simp [tX],by simp [hen],by simp⟩ (by kernel_rfl) ?_
  rintro ⟨k,hk,hin⟩
  by_cases hlt:k < cs.length
  ·obtain ⟨hg,he⟩:=getK_get hlt
   have hci:=hcin _ (getK_mem hlt)
   have hno:=insAll_no (ps:=ps) (paper:=paper) hlt
   have hyes:inC ps paper (getK cs k) = true → ∀ j,j < k + 1 → inC ps paper (getK cs j) = true:=fun hh j hj=>by
    by_cases e:j = k
    ·subst e; exact hh
    ·exact hin j (by omega)
   clear he
   generalize getK cs k = c at *
   obtain ⟨a0,ab,bn⟩:=hci
   have hva:vP (pI ps c.a) = true:=hvp _ (nth_mem (by omega))
   have hvb:vP (pI ps c.b) = true:=hvp _ (nth_mem (by omega))
   have f1:=c131 ps cs c (by omega) (by omega)
   have f2:=c132 ps cs c (by omega) (by omega)
   rw [show nth ps c.a.toNat = pI ps c.a from rfl] at f1
   rw [show nth ps c.b.toNat = pI ps c.b from rfl] at f2
   have i1:=c133 paper (pI ps c.a) hvpa (vP_bound hva) (by omega)
   have i2:=c133 paper (pI ps c.b) hvpa (vP_bound hvb) (by omega)
   have i3:=c134 paper (pI ps c.a) (pI ps c.b) (crs_of hpo hva hvb)
   have hdef:inC ps paper c = (decide (c.k = 1) || (decide (0 ≤ insP paper (pI ps c.a)) && (decide (0 ≤ insP paper (pI ps c.b)) && crossB paper (pI ps c.a) (pI ps c.b)))):=rfl
   have hel:(encK c).length = 3:=rfl
   generalize pI ps c.a = pa at *
   generalize pI ps c.b = pb at *
   generalize insP paper pa = ia at *
   generalize insP paper pb = ib at *
   generalize crossB paper pa pb = cb at *
   have l6:∀ p:Pt,(encP p).length = 6:=fun _=>rfl
   by_cases hk1:c.k = 1
   ·have:inC ps paper c = true:=by rw [hdef,decide_eq_true hk1]; rfl
    simp (maxSteps:=999999) (disch:=first|exact {}|omega|simp) [Lw,Lm,Lt,Lo,Ln,allLen,hlt,hg,encK,hk1]
    (refine ⟨⟨k + 1,by omega,hyes this⟩,by (simp; try omega), ?_⟩; constructor <;> (simp (maxSteps:=999999) (disch:=first|exact {}|omega|simp) [Lw,Lm,Lt,Lo,Ln,allLen,hen]) <;> (try omega))
   ·have hek:encK c = [.int .i64 c.a,.int .i64 c.b,.int .i64 c.k]:=rfl
    simp (maxSteps:=999999) (disch:=first|exact {}|omega|simp) [Lw,Lm,Lt,Lo,Ln,allLen,hlt,hg,hek,hk1,hen]
    refine CallK.of (f1) (by first | exact .inl rfl | exact .inr (by simp)) (by simp) ?_
    simp (maxSteps:=999999) (disch:=first|exact {}|omega|simp) [Lw,Lm,Lt,Lo,Ln,allLen,hek,hen]
    refine CallK.of (f2) (by first | exact .inl rfl | exact .inr (by simp)) (by simp) ?_
    simp (maxSteps:=999999) (disch:=first|exact {}|omega|simp) [Lw,Lm,Lt,Lo,Ln,allLen,encP,encN]
    refine CallK.of (i1) (by first | exact .inl rfl | exact .inr (by simp)) (by simp) ?_
    simp (maxSteps:=999999) (disch:=first|exact {}|omega|simp) [Lw,Lm,Lt,Lo,Ln,allLen]
    by_cases h1:ia < 0
    ·have:inC ps paper c = false:=by rw [hdef,decide_eq_false hk1,decide_eq_false (show ¬ 0 ≤ ia by omega)]; rfl
     simp (maxSteps:=999999) (disch:=first|exact {}|omega|simp) [Lw,Lm,Lt,Lo,Ln,allLen,h1,hvB2,hno this]
    ·simp (maxSteps:=999999) (disch:=first|exact {}|omega|simp) [Lw,Lm,Lt,Lo,Ln,allLen,h1,encP,encN]
     refine CallK.of (i2) (by first | exact .inl rfl | exact .inr (by simp)) (by simp) ?_
     simp (maxSteps:=999999) (disch:=first|exact {}|omega|simp) [Lw,Lm,Lt,Lo,Ln,allLen]
     by_cases h2:ib < 0
     ·have:inC ps paper c = false:=by rw [hdef,decide_eq_false hk1,decide_eq_false (show ¬ 0 ≤ ib by omega)]; simp
      simp (maxSteps:=999999) (disch:=first|exact {}|omega|simp) [Lw,Lm,Lt,Lo,Ln,allLen,h2,hvB2,hno this]
     ·simp (maxSteps:=999999) (disch:=first|exact {}|omega|simp) [Lw,Lm,Lt,Lo,Ln,allLen,h2,encP,encN]
      refine CallK.of (i3) (by first | exact .inl rfl | exact .inr (by simp)) (by simp) ?_
      simp (maxSteps:=999999) (disch:=first|exact {}|omega|simp) [Lw,Lm,Lt,Lo,Ln,allLen]
      cases cb
      ·have:inC ps paper c = false:=by rw [hdef,decide_eq_false hk1]; simp
       simp (maxSteps:=999999) (disch:=first|exact {}|omega|simp) [Lw,Lm,Lt,Lo,Ln,allLen,hvB2,hno this]
      ·have:inC ps paper c = true:=by rw [hdef,decide_eq_true (show 0 ≤ ia by omega),decide_eq_true (show 0 ≤ ib by omega)]; simp
       simp (maxSteps:=999999) (disch:=first|exact {}|omega|simp) [Lw,Lm,Lt,Lo,Ln,allLen]
       (refine ⟨⟨k + 1,by omega,hyes this⟩,by (simp; try omega), ?_⟩; constructor <;> (simp (maxSteps:=999999) (disch:=first|exact {}|omega|simp) [Lw,Lm,Lt,Lo,Ln,allLen,hen]) <;> (try omega))
  ·obtain rfl:k = cs.length:=by omega
   simp (maxSteps:=999999) (disch:=first|exact {}|omega|simp) [Lw,Lm,Lt,Lo,Ln,allLen,hvB2,insAll_yes hin]
end Go.Vai
namespace Go.Vai
@[simp] theorem flat_encI' (x:Int):flatC (encI x) = True:=by simp [flatC,encI,IV.flat]
def backL (l:List Int):List Int:=l.take 1 ++ (l.drop 1).reverse
theorem backL_at (x:Int) (l:List Int):backL (x :: l) = x :: l.reverse:=rfl
theorem c123 (l:List Int) (h0:0 < l.length) (h:(l.length:Int) ≤ 1048576):PC E 123 [.i (.sl (l.map encI))] [.own 1 ((backL l).map encI)]:=by
 obtain ⟨x,t,rfl⟩:∃ x t,l = x :: t:=by
  cases l with
  | nil=>simp at h0
  | cons x t=>exact ⟨x,t,rfl⟩
 rw [backL_at]
 have hl:(x :: t).length = t.length + 1:=rfl
 rw [hl] at h
 have hm:(x :: t).map encI = [.int .i64 x] :: t.map encI:=rfl
 have hlm:([IV.int .i64 x] :: t.map encI).length = t.length + 1:=by simp
 refine PC_start hE Proofs.Tryz.func123 rfl rfl Proofs.Tryz.ntmps123 (by kernel_rfl) (by kernel_rfl) (by simp) ?_
 rw [hm]
 simp (maxSteps:=999999) (disch:=first|exact {}|omega|simp) [Lw,Lm,Lt,Lo,Ln,allLen]
 refine XL.by hE (ι:={ k:Nat // k ≤ t.length }) (fun k=>⟨[(0,.i (.sl ([.int .i64 x] :: t.map encI))),(3,.own 8 0 (k.1 + 1)),(4,.i (.int .i64 ((t.length:Int) - k.1)))],[(8,⟨1,(x :: t.reverse.take k.1).map encI⟩)]⟩)
  (fun k=>t.length - k.1) ⟨0,Nat.zero_le _⟩ ⟨by simp,by simp [encI],by simp⟩ (by kernel_rfl) ?_
 rintro ⟨k,hk⟩
 have hkl:((x :: t.reverse.take k).map encI).length = k + 1:=by simp; omega
 have tX:List.take (k + 1) ((x :: t.reverse.take k).map encI) = (x :: t.reverse.take k).map encI:=List.take_of_length_le (by omega)
 by_cases hlt:k < t.length
 ·have ej:((t.length:Int) - k).toNat = t.length - k:=by omega
  have ej0:¬ ((t.length:Int) - k < 0):=by omega
  have ej1:0 < (t.length:Int) - k:=by omega
  have hj:t.length - k < t.length + 1:=by omega
  have hg:([IV.int .i64 x] :: t.map encI)[t.length - k]? = some [.int .i64 (t[t.length - 1 - k])]:=by
   rw [show t.length - k = (t.length - 1 - k) + 1 by omega,List.getElem?_cons_succ,List.getElem?_map,List.getElem?_eq_getElem (by omega)]; rfl
  have hst:(x :: t.reverse.take (k + 1)).map encI = (x :: t.reverse.take k).map encI ++ [[.int .i64 (t[t.length - 1 - k])]]:=by
   rw [List.take_add_one,List.getElem?_reverse hlt,List.getElem?_eq_getElem (by omega)]; simp [encI]
  obtain ⟨hg1,hg2⟩:=List.getElem?_eq_some_iff.1 hg
  generalize t[t.length - 1 - k] = z at *
  generalize (x :: t.reverse.take k).map encI = A at *
  generalize [IV.int .i64 x] :: t.map encI = B at *
  have hst2:encI x :: List.take (k + 1) (List.map encI t).reverse = A ++ [[.int .i64 z]]:=by rw [← hst]; simp
  simp (maxSteps:=999999) (disch:=first|exact {}|omega|simp) [Lw,Lm,Lt,Lo,Ln,allLen,ej,ej0,ej1,hj,hg,hg1,hg2,hlm,hkl,tX]
  (refine ⟨⟨k + 1,by omega⟩,by (simp; try omega), ?_⟩; constructor <;> (simp (maxSteps:=999999) (disch:=first|exact {}|omega|simp) [Lw,Lm,Lt,Lo,Ln,allLen,hst,hst2,tX,hkl]) <;> (try omega))
 ·obtain rfl:k = t.length:=by omega
  have hr:t.reverse.take t.length = t.reverse:=List.take_of_length_le (by simp)
  rw [hr] at tX
  have e0:¬ (0 < (t.length:Int) - t.length):=by omega
  simp (maxSteps:=999999) (disch:=first|exact {}|omega|simp) [Lw,Lm,Lt,Lo,Ln,allLen,e0,hr,tX]
  exact (List.take_of_length_le (by simp)).symm
noncomputable def arrI (ps:List Pt) (cs:List Cr):List Int:=if polI (rot0 (corC ps cs)) = true then rndI cs else backL (rndI cs)
noncomputable def papS (ps:List Pt) (cs:List Cr):List Pt:=if vB ps cs = true then (papO ps cs).getD [] else []
noncomputable def arrS (ps:List Pt) (cs:List Cr):List Int:=if vB ps cs = true then arrI ps cs else []
theorem c54 (ps:List Pt) (cs:List Cr) (h:(ps.length:Int) ≤ 1048576) (hc:(cs.length:Int) ≤ 1048576) :
  PC E 54 [.i (.ptr (encPa ps cs))] [.own 6 (encPs (papS ps cs)),.own 1 ((arrS ps cs).map encI),.i (.bool (vB ps cs))]:=by
 have no:vB ps cs = false → papS ps cs = [] ∧ arrS ps cs = []:=fun hv=>by unfold papS arrS; rw [hv]; exact ⟨rfl,rfl⟩
 refine PC_start hE Proofs.Tryz.func54 rfl rfl Proofs.Tryz.ntmps54 (by kernel_rfl) (by kernel_rfl) (by simp) ?_
 simp (maxSteps:=999999) (disch:=first|exact {}|omega|simp) [Lw,Lm,Lt,Lo,Ln,allLen]
 refine CallK.of (c116 ps cs (by omega) (by omega)) (by first | exact .inl rfl | exact .inr (by simp)) (by simp) ?_
 simp (maxSteps:=999999) (disch:=first|exact {}|omega|simp) [Lw,Lm,Lt,Lo,Ln,allLen]
 by_cases h1:lstB ps cs = true
 rotate_left
 ·have e:lstB ps cs = false:=by simpa using h1
  have hv:vB ps cs = false:=by unfold vB; rw [e]; rfl
  obtain ⟨n1,n2⟩:=no hv
  simp (maxSteps:=999999) (disch:=first|exact {}|omega|simp) [Lw,Lm,Lt,Lo,Ln,allLen,e,hv,n1,n2,encPs]
 have h1':=h1
 unfold lstB at h1'
 simp only [Bool.and_eq_true,decide_eq_true_eq] at h1'
 obtain ⟨⟨h40,h70⟩,hpts,hnm⟩:=h1'
 have hvp:=ptsOk_vp hpts
 have hpv:∀ p ∈ ps,PV p:=fun p hp=>vP_bound (hvp p hp)
 have hcin:=nmsOk_cin hnm
 simp (maxSteps:=999999) (disch:=first|exact {}|omega|simp) [Lw,Lm,Lt,Lo,Ln,allLen,h1]
 refine CallK.of (c117 ps cs hpv hcin (by omega)) (by first | exact .inl rfl | exact .inr (by simp)) (by simp) ?_
 simp (maxSteps:=999999) (disch:=first|exact {}|omega|simp) [Lw,Lm,Lt,Lo,Ln,allLen]
 by_cases h2:dirsOk ps cs = true
 rotate_left
 ·have e:dirsOk ps cs = false:=by simpa using h2
  have hv:vB ps cs = false:=by unfold vB; rw [e]; simp
  obtain ⟨n1,n2⟩:=no hv
  simp (maxSteps:=999999) (disch:=first|exact {}|omega|simp) [Lw,Lm,Lt,Lo,Ln,allLen,e,hv,n1,n2,encPs]
 have hsv:segsV ps cs = cs:=by unfold segsV; rw [if_pos h2]
 have hdir:∀ c ∈ cs,0 ≤ dirC ps c:=fun c hcm=>by
  unfold dirsOk at h2
  rw [List.all_eq_true] at h2
  simpa using h2 c hcm
 have tS:List.take cs.length (cs.map (sgC ps)) = cs.map (sgC ps):=List.take_of_length_le (by simp)
 simp (maxSteps:=999999) (disch:=first|exact {}|omega|simp) [Lw,Lm,Lt,Lo,Ln,allLen,h2,hsv]
 refine CallK.of (c118 ps cs hnm (by omega) (by omega)) (by first | exact .inl rfl | exact .inr (by simp)) (by simp) ?_
 simp (maxSteps:=999999) (disch:=first|exact {}|omega|simp) [Lw,Lm,Lt,Lo,Ln,allLen]
 by_cases h3:okR cs = true
 rotate_left
 ·have e:okR cs = false:=by simpa using h3
  have hv:vB ps cs = false:=by unfold vB papO; rw [e]; simp
  obtain ⟨n1,n2⟩:=no hv
  simp (maxSteps:=999999) (disch:=first|exact {}|omega|simp) [Lw,Lm,Lt,Lo,Ln,allLen,e,hv,n1,n2,encPs]
 obtain ⟨r1,r2,r3⟩:=rnd_in hnm h3
 have hn:0 < ps.length:=by
  rcases Nat.eq_zero_or_pos ps.length with e | e
  ·have hmm:(rndI cs)[0]'r3 ∈ rndI cs:=List.getElem_mem r3
   have:=r1 _ hmm
   omega
  ·exact e
 have hrs:rndS ps.length cs = rndI cs:=by unfold rndS; rw [if_pos (okR_deg hnm hn h3)]
 have tR:List.take (rndI cs).length ((rndI cs).map encI) = (rndI cs).map encI:=List.take_of_length_le (by simp)
 have hpl:=c119 ps cs hpv hcin hdir (by omega)
 simp (maxSteps:=999999) (disch:=first|exact {}|omega|simp) [Lw,Lm,Lt,Lo,Ln,allLen,h3,hrs,tS]
 refine CallK.of (hpl) (by first | exact .inl rfl | exact .inr (by simp)) (by simp) ?_
 simp (maxSteps:=999999) (disch:=first|exact {}|omega|simp) [Lw,Lm,Lt,Lo,Ln,allLen]
 by_cases h4:planB ps cs = true
 rotate_left
 ·have e:planB ps cs = false:=by simpa using h4
  have hv:vB ps cs = false:=by unfold vB; rw [e]; simp
  obtain ⟨n1,n2⟩:=no hv
  simp (maxSteps:=999999) (disch:=first|exact {}|omega|simp) [Lw,Lm,Lt,Lo,Ln,allLen,e,hv,n1,n2,encPs]
 simp (maxSteps:=999999) (disch:=first|exact {}|omega|simp) [Lw,Lm,Lt,Lo,Ln,allLen,h4]
 refine CallK.of (c102 ps cs hcin hn (by omega) (by omega)) (by first | exact .inl rfl | exact .inr (by simp)) (by simp) ?_
 simp (maxSteps:=999999) (disch:=first|exact {}|omega|simp) [Lw,Lm,Lt,Lo,Ln,allLen]
 by_cases h5:conB ps.length cs = true
 rotate_left
 ·have e:conB ps.length cs = false:=by simpa using h5
  have hv:vB ps cs = false:=by unfold vB; rw [e]; simp
  obtain ⟨n1,n2⟩:=no hv
  simp (maxSteps:=999999) (disch:=first|exact {}|omega|simp) [Lw,Lm,Lt,Lo,Ln,allLen,e,hv,n1,n2,encPs]
 have hl1:(rptC ps cs).length = (rndI cs).length:=by simp [rptC]
 have hbl:=bendN_len (rptC ps cs) (rptC ps cs).length
 have hcl:(corC ps cs).length ≤ (rptC ps cs).length:=hbl
 have hcv:∀ p ∈ corC ps cs,vP p = true:=fun p hp=>hvp p (cor_mem hnm h3 p hp)
 have hcv2:∀ p ∈ (corC ps cs).reverse,PV p:=fun p hp=>vP_bound (hcv p (by simpa using hp))
 have hne:=nrm_eq hcv
 have hpo:papO ps cs = nrmO (corC ps cs):=by unfold papO; rw [if_pos h3]
 have hvB:vB ps cs = ((papO ps cs).isSome && insAll ps ((papO ps cs).getD []) cs):=by unfold vB; rw [h1,h2,h4,h5]; rfl
 have hco:=c120 ps cs hpv (rndI cs) r1 (by omega)
 rw [show encPs (bendN ((rndI cs).map (pI ps)) (rndI cs).length) = encPs (corC ps cs) by unfold corC; rw [hl1]; rfl] at hco
 have tC:List.take (corC ps cs).length (encPs (corC ps cs)) = encPs (corC ps cs):=List.take_of_length_le (by simp)
 have hr1:=rot0_len (corC ps cs)
 have hr2:=rot0_len (corC ps cs).reverse
 rw [List.length_reverse] at hr2
 have t1:List.take (rot0 (corC ps cs)).length (encPs (rot0 (corC ps cs))) = encPs (rot0 (corC ps cs)):=List.take_of_length_le (by simp)
 have t2:List.take (rot0 (corC ps cs).reverse).length (encPs (rot0 (corC ps cs).reverse)) = encPs (rot0 (corC ps cs).reverse):=List.take_of_length_le (by simp)
 have t3:List.take (corC ps cs).length (encPs (corC ps cs).reverse) = encPs (corC ps cs).reverse:=List.take_of_length_le (by simp)
 simp (maxSteps:=999999) (disch:=first|exact {}|omega|simp) [Lw,Lm,Lt,Lo,Ln,allLen,h5,tR]
 refine CallK.of (hco) (by first | exact .inl rfl | exact .inr (by simp)) (by simp) ?_
 simp (maxSteps:=999999) (disch:=first|exact {}|omega|simp) [Lw,Lm,Lt,Lo,Ln,allLen,tC]
 refine CallK.of (c121 (corC ps cs) (fun p hp=>vP_bound (hcv p hp)) (by omega)) (by first | exact .inl rfl | exact .inr (by simp)) (by simp) ?_
 simp (maxSteps:=999999) (disch:=first|exact {}|omega|simp) [Lw,Lm,Lt,Lo,Ln,allLen,t1]
 refine CallK.of (c122 (rot0 (corC ps cs)) (by omega)) (by first | exact .inl rfl | exact .inr (by simp)) (by simp) ?_
 rw [← pol_eq]
 simp (maxSteps:=999999) (disch:=first|exact {}|omega|simp) [Lw,Lm,Lt,Lo,Ln,allLen]
 by_cases h6:polI (rot0 (corC ps cs)) = true
 ·have hp2:papO ps cs = some (rot0 (corC ps cs)):=by rw [hpo,hne,if_pos h6]
  rw [hp2] at hvB
  simp only [Option.isSome_some,Option.getD_some,Bool.true_and] at hvB
  simp (maxSteps:=999999) (disch:=first|exact {}|omega|simp) [Lw,Lm,Lt,Lo,Ln,allLen,h6,t1]
  refine CallK.of (c122 (rot0 (corC ps cs)) (by omega)) (by first | exact .inl rfl | exact .inr (by simp)) (by simp) ?_
  rw [← pol_eq]
  simp (maxSteps:=999999) (disch:=first|exact {}|omega|simp) [Lw,Lm,Lt,Lo,Ln,allLen,h6,tS,t1]
  refine CallK.of (c125 ps cs (rot0 (corC ps cs)) hvp hcin h6 (by omega)) (by first | exact .inl rfl | exact .inr (by simp)) (by simp) ?_
  simp (maxSteps:=999999) (disch:=first|exact {}|omega|simp) [Lw,Lm,Lt,Lo,Ln,allLen]
  by_cases h7:insAll ps (rot0 (corC ps cs)) cs = true
  ·have hv:vB ps cs = true:=by rw [hvB,h7]
   have n1:papS ps cs = rot0 (corC ps cs):=by unfold papS; rw [if_pos hv,hp2]; rfl
   have n2:arrS ps cs = rndI cs:=by unfold arrS arrI; rw [if_pos hv,if_pos h6]
   simp (maxSteps:=999999) (disch:=first|exact {}|omega|simp) [Lw,Lm,Lt,Lo,Ln,allLen,h7,hv,n1,n2,t1,tR]
  ·have e:insAll ps (rot0 (corC ps cs)) cs = false:=by simpa using h7
   have hv:vB ps cs = false:=by rw [hvB,e]
   obtain ⟨n1,n2⟩:=no hv
   simp (maxSteps:=999999) (disch:=first|exact {}|omega|simp) [Lw,Lm,Lt,Lo,Ln,allLen,e,hv,n1,n2,encPs]
 ·have e6:polI (rot0 (corC ps cs)) = false:=by simpa using h6
  have hbk:=c123 (rndI cs) r3 (by omega)
  have hbkl:(backL (rndI cs)).length = (rndI cs).length:=by unfold backL; simp; omega
  have tB:List.take (rndI cs).length ((backL (rndI cs)).map encI) = (backL (rndI cs)).map encI:=List.take_of_length_le (by simp [hbkl])
  simp (maxSteps:=999999) (disch:=first|exact {}|omega|simp) [Lw,Lm,Lt,Lo,Ln,allLen,e6,tR]
  refine CallK.of (hbk) (by first | exact .inl rfl | exact .inr (by simp)) (by simp) ?_
  simp (maxSteps:=999999) (disch:=first|exact {}|omega|simp) [Lw,Lm,Lt,Lo,Ln,allLen,tC]
  refine CallK.of (c124 (corC ps cs) (by omega)) (by first | exact .inl rfl | exact .inr (by simp)) (by simp) ?_
  simp (maxSteps:=999999) (disch:=first|exact {}|omega|simp) [Lw,Lm,Lt,Lo,Ln,allLen,t3]
  refine CallK.of (c121 (corC ps cs).reverse hcv2 (by simp; omega)) (by first | exact .inl rfl | exact .inr (by simp)) (by simp) ?_
  simp (maxSteps:=999999) (disch:=first|exact {}|omega|simp) [Lw,Lm,Lt,Lo,Ln,allLen,t2]
  refine CallK.of (c122 (rot0 (corC ps cs).reverse) (by omega)) (by first | exact .inl rfl | exact .inr (by simp)) (by simp) ?_
  rw [← pol_eq]
  simp (maxSteps:=999999) (disch:=first|exact {}|omega|simp) [Lw,Lm,Lt,Lo,Ln,allLen]
  by_cases h8:polI (rot0 (corC ps cs).reverse) = true
  ·have hp2:papO ps cs = some (rot0 (corC ps cs).reverse):=by rw [hpo,hne,if_neg h6,if_pos h8]
   rw [hp2] at hvB
   simp only [Option.isSome_some,Option.getD_some,Bool.true_and] at hvB
   simp (maxSteps:=999999) (disch:=first|exact {}|omega|simp) [Lw,Lm,Lt,Lo,Ln,allLen,h8,tS,t2]
   refine CallK.of (c125 ps cs (rot0 (corC ps cs).reverse) hvp hcin h8 (by omega)) (by first | exact .inl rfl | exact .inr (by simp)) (by simp) ?_
   simp (maxSteps:=999999) (disch:=first|exact {}|omega|simp) [Lw,Lm,Lt,Lo,Ln,allLen]
   by_cases h7:insAll ps (rot0 (corC ps cs).reverse) cs = true
   ·have hv:vB ps cs = true:=by rw [hvB,h7]
    have n1:papS ps cs = rot0 (corC ps cs).reverse:=by unfold papS; rw [if_pos hv,hp2]; rfl
    have n2:arrS ps cs = backL (rndI cs):=by unfold arrS arrI; rw [if_pos hv,if_neg h6]
    simp (maxSteps:=999999) (disch:=first|exact {}|omega|simp) [Lw,Lm,Lt,Lo,Ln,allLen,h7,hv,n1,n2,t2,tB,hbkl]
   ·have e:insAll ps (rot0 (corC ps cs).reverse) cs = false:=by simpa using h7
    have hv:vB ps cs = false:=by rw [hvB,e]
    obtain ⟨n1,n2⟩:=no hv
    simp (maxSteps:=999999) (disch:=first|exact {}|omega|simp) [Lw,Lm,Lt,Lo,Ln,allLen,e,hv,n1,n2,encPs]
  ·have e8:polI (rot0 (corC ps cs).reverse) = false:=by simpa using h8
   have hp2:papO ps cs = none:=by rw [hpo,hne,if_neg h6,if_neg h8]
   have hv:vB ps cs = false:=by rw [hvB,hp2]; rfl
   obtain ⟨n1,n2⟩:=no hv
   simp (maxSteps:=999999) (disch:=first|exact {}|omega|simp) [Lw,Lm,Lt,Lo,Ln,allLen,e8,hv,n1,n2,encPs]
theorem c61 (ps:List Pt) (cs:List Cr) (h:(ps.length:Int) ≤ 1048576) (hc:(cs.length:Int) ≤ 1048576):PC E 61 [.i (.ptr (encPa ps cs))] [.i (.bool (vB ps cs))]:=by
 refine PC_start hE Proofs.Tryz.func61 rfl rfl Proofs.Tryz.ntmps61 (by kernel_rfl) (by kernel_rfl) (by simp) ?_
 simp (maxSteps:=999999) (disch:=first|exact {}|omega|simp) [Lw,Lm,Lt,Lo,Ln,allLen]
 refine CallK.of (c54 ps cs h hc) (by first | exact .inl rfl | exact .inr (by simp)) (by simp) ?_
 simp (maxSteps:=999999) (disch:=first|exact {}|omega|simp) [Lw,Lm,Lt,Lo,Ln,allLen]
theorem typedCr {n:Nat} {el:List IV} (h:Typed E n 156 el):∃ c:Cr,el = encK c:=by
 cases n with
 | zero=>exact h.elim
 | succ n =>
  simp only [Typed,k156,fieldsT] at h
  obtain ⟨a0,b0,rfl,h0,a1,b1,rfl,h1,a2,b2,rfl,h2,rfl⟩:=h
  obtain ⟨x,rfl,-⟩:=typedZ h0
  obtain ⟨y,rfl,-⟩:=typedZ h1
  obtain ⟨z,rfl,-⟩:=typedZ h2
  exact ⟨⟨x,y,z⟩,rfl⟩
theorem typedPa {n:Nat} {el:List IV} (h:Typed E n 25 el):∃ (ps:List Pt) (cs:List Cr),el = encPa ps cs ∧ ps.length ≤ maxLen ∧ cs.length ≤ maxLen:=by
 cases n with
 | zero=>exact h.elim
 | succ n =>
  simp only [Typed,k25,fieldsT] at h
  obtain ⟨a0,b0,rfl,h0,a1,b1,rfl,h1,rfl⟩:=h
  obtain ⟨p,rfl,lp⟩:=typedPts h0
  obtain ⟨c,rfl,lc⟩:=typedSlice (enc:=encK) k23 (fun _ _=>typedCr) h1
  exact ⟨p,c,by simp [encPa],lp,lc⟩
end Go.Vai
