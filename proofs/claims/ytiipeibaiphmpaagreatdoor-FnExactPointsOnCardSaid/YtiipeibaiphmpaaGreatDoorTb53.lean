/- Texts of this claim: Zw6, Zw7. -/
import Derived.Test.YtiipeibaiphmpaaGreatDoorTb52
import Derived.Test.YtiipeibaiphmpaaGreatDoorTb32
import Derived.Test.YtiipeibaiphmpaaGreatDoorTb36
import Derived.Test.YtiipeibaiphmpaaGreatDoorTb42
set_option linter.unusedVariables false
set_option linter.unusedSimpArgs false
set_option maxHeartbeats 4000000
namespace Go.Vai
open Classical in
theorem freeze_var {E:Env} {z1:Base} {F R:Nat → Prop} {n:Nat} {t o sz:Nat} {xs ys:List IV} {T:List (Nat × AV)} {H:List (Nat × Obj)} {a:Act} {w:World}
  (hx:Ctx E z1 (fun b=>F b ∨ R b)) (hf:Fits z1 (fun b=>F b ∨ R b) n ⟨(t,.ptr o 0 0) :: T,(o,⟨sz,[xs]⟩) :: H⟩ a w) (hFR:∀ b,F b → ¬ R b) (hG:GRep E F z1.w)
  (hcl:clT H T = true) (hno:look H o = none) (ho:o < 700000) (hl:ys.length = xs.length)
  (hv:∀ (Fc:Nat → Prop) (j:Nat) (x y:IV) (v:Value),(∀ b,F b ∨ R b → Fc b) → (∀ b,F b ∨ R b → w.heap[b]? = z1.w.heap[b]?) → xs[j]? = some x → ys[j]? = some y → Rep Fc w x v → Rep Fc w y v) :
  ∃ (z2:Base) (Fa:Nat → Prop) (bk off:Nat) (cv:Nat → Value),z2.w = w ∧ Ctx E z2 (fun b=>Fa b ∨ R b) ∧ Back z1 (fun b=>F b ∨ R b) z2 (fun b=>Fa b ∨ R b) ∧ (∀ b,F b → Fa b) ∧ (∀ b,Fa b → ¬ R b) ∧ GRep E Fa w ∧
   Fits z2 (fun b=>Fa b ∨ R b) n ⟨(t,.pin (.pointer (some ⟨bk,off,none⟩)) (.i (.ptr ys))) :: T,H⟩ a w ∧ Fa bk ∧ (∀ (j:Nat) (x:IV),xs[j]? = some x → w.cell? ⟨bk,off + j,none⟩ = some (cv j) ∧ Rep (fun b=>Fa b ∨ R b) w x (cv j)):=by
 obtain ⟨Fc,ρ,h⟩:=hf
 obtain ⟨r1,r2,r3⟩:=h.restart hx
 obtain ⟨L,hL⟩:=Option.isSome_iff_exists.1 (h.heap.sm o ⟨sz,[xs]⟩ (by simp [look_cons]) (by simp))
 have hptr:=h.tmps t (.ptr o 0 0) (by simp [look_cons])
 have hpt:a.tmps.getD t undef = .pointer (some ⟨L.b,L.base,none⟩):=by
  generalize a.tmps.getD t undef = u at hptr
  cases hptr with | ptr _ _ _ L' h' =>
  rw [hL] at h'
  obtain rfl:=Option.some.inj h'
  simp
 obtain ⟨q1,q2,q3⟩:=h.heap.obj o ⟨sz,[xs]⟩ L (by simp [look_cons]) hL
 obtain ⟨-,-,-,-,cs,ty,g1,g2,g3⟩:=q1
 have hcell:∀ (j:Nat) (x:IV),xs[j]? = some x → ∃ u,cs[L.base + j]? = some u ∧ Rep Fc w x u:=fun j x hj=>by
  obtain ⟨u,h1,h2⟩:=g3 0 xs j x rfl hj
  exact ⟨u,by simpa using h1,h2⟩
 have hLlt:L.b < w.heap.size:=(Array.getElem?_eq_some_iff.1 g1).1
 have hFc:∀ b,F b ∨ R b → Fc b:=h.sub
 have hsame:∀ b,F b ∨ R b → w.heap[b]? = z1.w.heap[b]?:=fun b hb=>h.below.block b (hx.lt b hb)
 have hbig:∀ b,Fc b → (((Fc b ∧ ¬ R b) ∨ b = L.b) ∨ R b):=fun b hb=>by
  by_cases hr:R b
  ·exact .inr hr
  ·exact .inl (.inl ⟨hb,hr⟩)
 have hlook:∀ o',o' ≠ o → look ((o,(⟨sz,[xs]⟩:Obj)) :: H) o' = look H o':=fun o' hne=>by
  rw [look_cons,if_neg (fun e=>hne e.symm)]
 have hρ:∀ o' L',(fun o'=>if o' = o then none else ρ o') o' = some L' → o' ≠ o ∧ ρ o' = some L':=fun o' L' hh=>by
  simp only at hh
  split at hh
  ·simp at hh
  ·rename_i hne; exact ⟨hne,hh⟩
 have hbkne:∀ o' ob' L',look H o' = some ob' → ρ o' = some L' → o' ≠ o → L'.b ≠ L.b:=fun o' ob' L' h1 h2 hne e=>by
  exact hne (h.heap.apart o' o ob' ⟨sz,[xs]⟩ L' L (by rw [hlook o' hne]; exact h1) (by simp [look_cons]) h2 hL e)
 have hnF:∀ o' ob' L',look H o' = some ob' → ρ o' = some L' → o' ≠ o → ¬ (((Fc L'.b ∧ ¬ R L'.b) ∨ L'.b = L.b) ∨ R L'.b):=fun o' ob' L' h1 h2 hne hh=>by
  have hq:=(h.heap.obj o' ob' L' (by rw [hlook o' hne]; exact h1) h2).2.2
  rcases hh with (hh | hh) | hh
  ·exact hq hh.1
  ·exact hbkne o' ob' L' h1 h2 hne hh
  ·exact hq (hFc _ (.inr hh))
 refine ⟨⟨w,Dm (fun o'=>if o' = o then none else ρ o') H,z1.at_⟩,fun b=>(Fc b ∧ ¬ R b) ∨ b = L.b,L.b,L.base,fun j=>(cs[L.base + j]?).getD undef,rfl,⟨r1.glob.mono hbig fun _ _=>rfl,fun b hb hm=>?_⟩,
  ⟨h.below,fun b hb=>?_,fun b hb=>hbig b (hFc b hb),fun b hb=>?_,fun _ _=>rfl⟩,fun b hb=>.inl ⟨hFc b (.inl hb),hFR b hb⟩,fun b hb hr=>?_,hG.mono (fun b hb=>.inl ⟨hFc b (.inl hb),hFR b hb⟩) fun b hb=>hsame b (.inl hb),
  ⟨fun b=>((Fc b ∧ ¬ R b) ∨ b = L.b) ∨ R b,fun o'=>if o' = o then none else ρ o',⟨⟨Base.Kept.refl _,h.defers,h.size,fun _ h=>h,fun _ h=>.inl h,fun b hb=>?_,fun t' u hu=>?_,⟨fun o' ob' L' h1 h2=>?_,fun o' ob' h1 hne=>?_,fun o' o'' ob' ob'' L' L'' h1 h2 h3 h4 h5=>?_⟩⟩,fun o' L' h1=>?_,fun o' h7 h1=>?_⟩⟩,.inr rfl,fun j x hj=>?_⟩
 ·have hlt:b < w.heap.size:=by
   rcases hb with (hb | rfl) | hb
   ·exact h.lt b hb.1
   ·exact hLlt
   ·exact h.lt b (hFc b (.inr hb))
  rcases hm with hm | ⟨o',ob',L',h1,h2,rfl⟩
  ·exact absurd hlt (Nat.not_lt.2 hm)
  ·obtain ⟨hne,h2⟩:=hρ _ _ h2
   exact hnF o' ob' L' h1 h2 hne hb
 ·rcases hb with hb | ⟨o',ob',L',h1,h2,rfl⟩
  ·exact .inl (Nat.le_trans h.below.size hb)
  ·obtain ⟨hne,h2⟩:=hρ _ _ h2
   exact (h.heap.obj o' ob' L' (by rw [hlook o' hne]; exact h1) h2).2.1
 ·rcases hb with (hb | rfl) | hb
  ·exact h.sup b hb.1
  ·exact .inr q2
  ·exact .inl (.inr hb)
 ·rcases hb with hb | rfl
  ·exact hb.2 hr
  ·exact q3 (hFc _ (.inr hr))
 ·rcases hb with (hb | rfl) | hb
  ·exact h.lt b hb.1
  ·exact hLlt
  ·exact h.lt b (hFc b (.inr hb))
 ·simp only [look_cons] at hu
  split at hu
  ·rename_i e; subst e
   obtain rfl:=Option.some.inj hu
   rw [hpt]
   refine .pin _ _ (.i _ _ (.ptr ys L.b L.base (fun j=>(cs[L.base + j]?).getD undef) (.inl (.inr rfl)) (fun j y hj=>?_) fun j y hj=>?_))
   ·have hj':j < xs.length:=by rw [← hl]; exact (List.getElem?_eq_some_iff.1 hj).1
    obtain ⟨u,h1,h2⟩:=hcell j _ (List.getElem?_eq_getElem hj')
    simp [World.cell?,g1,h1]
   ·have hj':j < xs.length:=by rw [← hl]; exact (List.getElem?_eq_some_iff.1 hj).1
    obtain ⟨u,h1,h2⟩:=hcell j _ (List.getElem?_eq_getElem hj')
    rw [h1]
    exact (hv Fc j _ y u hFc hsame (List.getElem?_eq_getElem hj') hj h2).mono hbig fun _ _=>rfl
  ·rename_i e
   have hu':=h.tmps t' u (by rw [look_cons,if_neg e]; exact hu)
   refine hu'.away hbig (fun _ _=>rfl) fun o' L' hm hL'=>?_
   have:=inH_spec hm (clT_spec hcl t' u hu)
   have hne:o' ≠ o:=fun e'=>by subst e'; rw [hno] at this; simp at this
   simp only [if_neg hne]; exact hL'
 ·obtain ⟨hne,h2⟩:=hρ _ _ h2
  obtain ⟨p1,p2,p3⟩:=h.heap.obj o' ob' L' (by rw [hlook o' hne]; exact h1) h2
  exact ⟨p1.mono hbig (fun _ _=>rfl) rfl,.inr ⟨o',ob',L',h1,by simp only [if_neg hne]; exact h2,rfl⟩,hnF o' ob' L' h1 h2 hne⟩
 ·have hne':o' ≠ o:=fun e'=>by subst e'; rw [hno] at h1; simp at h1
  simp only [if_neg hne']
  exact h.heap.sm o' ob' (by rw [hlook o' hne']; exact h1) hne
 ·obtain ⟨n1,h3⟩:=hρ _ _ h3
  obtain ⟨n2,h4⟩:=hρ _ _ h4
  exact h.heap.apart o' o'' ob' ob'' L' L'' (by rw [hlook o' n1]; exact h1) (by rw [hlook o'' n2]; exact h2) h3 h4 h5
 ·obtain ⟨n1,h1⟩:=hρ _ _ h1
  have:=h.dom o' L' h1
  rwa [hlook o' n1] at this
 ·have hne':o' ≠ o:=by omega
  simp only [if_neg hne']
  exact h.pin o' h7 (by rw [hlook o' hne']; exact h1)
 ·obtain ⟨u,h1,h2⟩:=hcell j x hj
  exact ⟨by simp [World.cell?,g1,h1],by simp only [h1,Option.getD_some]; exact h2.mono hbig fun _ _=>rfl⟩
theorem Fits.view {z:Base} {F:Nat → Prop} {n:Nat} {S:St} {a:Act} {w:World} {t:Nat} {p:Value} {y u':AV} (h:Fits z F n S a w) (ht:look S.T t = some (.pin p y)) (hu:∀ (F':Nat → Prop) (ρ':Locs),(∀ b,F b → F' b) → RepA F' ρ' w y p → RepA F' ρ' w u' p):Fits z F n ⟨(t,u') :: S.T,S.H⟩ a w:=by
 obtain ⟨F',ρ,hf⟩:=h
 have hv:a.tmps.getD t undef = p ∧ RepA F' ρ w y p:=by
  have:=hf.tmps t _ ht
  generalize a.tmps.getD t undef = u at this
  cases this with | pin _ _ h=>exact ⟨rfl,h⟩
 refine ⟨F',ρ,⟨⟨hf.below,hf.defers,hf.size,hf.sub,hf.sup,hf.lt,fun s v hs=>?_,hf.heap⟩,hf.dom,hf.pin⟩⟩
 simp only [look_cons] at hs
 split at hs
 ·rename_i e; subst e
  obtain rfl:=Option.some.inj hs
  rw [hv.1]; exact hu F' ρ hf.sub hv.2
 ·exact hf.tmps s v hs
theorem Fits.unpin {z:Base} {F:Nat → Prop} {n:Nat} {S:St} {a:Act} {w:World} {t:Nat} {p:Value} {y:AV} (h:Fits z F n S a w) (ht:look S.T t = some (.pin p y)):Fits z F n ⟨(t,y) :: S.T,S.H⟩ a w:=h.view ht fun _ _ _ h=>h
theorem Rep.raw_eq {F:Nat → Prop} {w:World} {x v:Value} (h:Rep F w (.raw x) v):v = x:=by cases h; rfl
theorem Fits.pinAgg {z:Base} {F:Nat → Prop} {n:Nat} {S:St} {a:Act} {w:World} {t:Nat} {cs:Array Value} {y:AV} (h:Fits z F n S a w) (ht:look S.T t = some (.agg (cs.toList.map .raw))) (hr:∀ (F':Nat → Prop) (ρ':Locs),(∀ b,F b → F' b) → RepA F' ρ' w y (.agg cs)) :
  Fits z F n ⟨(t,.pin (.agg cs) y) :: S.T,S.H⟩ a w:=by
 obtain ⟨F',ρ,hf⟩:=h
 have hv:a.tmps.getD t undef = .agg cs:=by
  have:=hf.tmps t _ ht
  generalize a.tmps.getD t undef = u at this
  cases this with | agg _ ds hs hr' =>
  congr 1
  refine Array.ext (by simpa using hs) fun j h1 h2=>?_
  exact (hr' j (.raw cs[j]) ds[j] (by simp [h2]) (Array.getElem?_eq_getElem h1)).raw_eq
 refine ⟨F',ρ,⟨⟨hf.below,hf.defers,hf.size,hf.sub,hf.sup,hf.lt,fun s v hs=>?_,hf.heap⟩,hf.dom,hf.pin⟩⟩
 simp only [look_cons] at hs
 split at hs
 ·rename_i e; subst e
  obtain rfl:=Option.some.inj hs
  rw [hv]; exact .pin _ _ (hr F' ρ hf.sub)
 ·exact hf.tmps s v hs
theorem aggW_start {E:Env} {f:FuncId} {fn:Func} {c:Code} {n:Nat} (hf:E.P.funcs[f]? = some fn) (hb:fn.body = some c) (hnt:fn.ntmps = n) (hn:2 ≤ n) {F R:Nat → Prop} {w:World} {cs:Array Value} {k:Int}
  (hG:GRep E F w) (hlt:∀ b,F b → b < w.heap.size) (hFR:∀ b,F b → ¬ R b) (hone:∀ (j:Nat) (v:Value),cs[j]? = some v → v.oneCell' = true) {P:Ending → World → Prop}
  (h:∀ (z1:Base) (F1:Nat → Prop) a,Ctx E z1 F1 → Back (baseR w R) F z1 F1 → z1.w = w → (∀ Q:Nat → Prop,(∀ b,Q b → R b ∧ b < w.heap.size) → Out (baseR w R) z1 F1 Q) → Fits z1 F1 n ⟨[(0,.agg (cs.toList.map .raw)),(1,.i (.int .i64 k))],[]⟩ a w → c.wp E.P (bodyPost E.P fn P) a w):Calls E.P f #[.agg cs,.int .i64 k] w P:=by
 subst hnt
 refine calls_of_wp hf hb ?_
 have hfit:Fit (baseR w R) F fn.ntmps ⟨[(0,.agg (cs.toList.map .raw)),(1,.i (.int .i64 k))],[]⟩ { tmps:=#[.agg cs,.int .i64 k] ++ Array.replicate (fn.ntmps - 2) undef,defers:=[] } w F (fun _=>none):=by
  refine ⟨⟨Base.Kept.refl _,rfl,by simp; omega,fun _ h=>h,fun _ h=>.inl h,hlt,fun t u hu=>?_,⟨fun o ob L ho hL=>by simp [look] at ho,fun o ob ho hne=>by simp [look] at ho,fun o o' ob ob' L L' ho ho' _ _ _=>by simp [look] at ho⟩⟩,fun o L hL=>by simp at hL,fun o h7 ho=>by simp [look] at ho⟩
  simp only [look_cons,look_nil] at hu
  split at hu
  ·rename_i e; subst e
   obtain rfl:=Option.some.inj hu
   rw [get0]
   refine .agg _ _ (by simp) fun j x v hx hv=>?_
   rw [List.getElem?_map,Option.map_eq_some_iff] at hx
   obtain ⟨v',h1,rfl⟩:=hx
   rw [Array.getElem?_toList,hv] at h1
   obtain rfl:=Option.some.inj h1
   exact .raw _ (hone j v hv)
  ·split at hu
   ·rename_i e; subst e
    obtain rfl:=Option.some.inj hu
    rw [get1]
    exact .i _ _ (.int _ _)
   ·simp at hu
 have hx:Ctx E (baseR w R) F:=⟨hG,fun b hb' hm=>hm.elim (fun h=>absurd (hlt b hb') (Nat.not_lt.2 h)) (hFR b hb')⟩
 obtain ⟨r1,r2,r3⟩:=hfit.restart hx
 refine h _ _ _ r1 r3 rfl (fun Q hQ b hq=>?_) ⟨_,_,r2⟩
 obtain ⟨hr,hl⟩:=hQ b hq
 refine ⟨fun h=>hFR b h hr,fun hm=>?_,.inr hr,hl⟩
 rcases hm with hm | ⟨o',ob',L',g1,g2,g3⟩
 ·exact absurd hl (Nat.not_lt.2 hm)
 ·simp [look] at g1
end Go.Vai
set_option maxHeartbeats 8000000
set_option maxRecDepth 20000
namespace Go.Vai
theorem c53 (l:List Cr) (k:Int) (h0:0 ≤ k) (h1:k + 3 * l.length ≤ 1099511627776):PM E 53 [.sl ⟨3,l.map encK⟩,.i (.i (.int .i64 k))] [⟨3,(List.range l.length).map (m3 k)⟩] [.i (.int .i64 (k + 3 * l.length))]:=by
 have hel:(l.map encK).length = l.length:=by simp
 refine PM_start hE Proofs.Tryz.func53 rfl rfl Proofs.Tryz.ntmps53 (by kernel_rfl) (by kernel_rfl) (by simp) (by simp [hel]) ?_
 simp (maxSteps:=999999) (disch:=first|exact {}|omega|simp) [zS,hel]
 refine XL.by hE (ι:={ q:Nat // q ≤ l.length }) (fun q=>⟨[(0,.own 700000 0 l.length),(1,.i (.int .i64 (k + 3 * (q.1:Int)))),(5,.i (.int .i64 q.1))],[(700000,⟨3,mixR (m3 k) (l.map encK) q.1⟩)]⟩)
  (fun q=>l.length - q.1) ⟨0,Nat.zero_le _⟩ ⟨by simp,by simp [mixR_zero],by simp⟩ (by kernel_rfl) ?_
 rintro ⟨q,hq⟩
 by_cases hlt:q < l.length
 ·have hA:=mixR_len (m3 k) (l.map encK) q (by omega)
  have hg:=mixR_get (m3 k) (l.map encK) q (by omega)
  have hs:(mixR (m3 k) (l.map encK) q).set q (r3 (k + 3 * (q:Int))) = mixR (m3 k) (l.map encK) (q + 1):=mixR_set (m3 k) (l.map encK) q (by omega)
  have hp:(l.map encK)[q]'(by omega) = encK l[q]:=by simp
  rw [hp] at hg
  rw [hel] at hA
  unfold r3 at hs
  generalize mixR (m3 k) (l.map encK) q = A at hA hg hs ⊢
  obtain ⟨hg1,hg2⟩:=List.getElem?_eq_some_iff.1 hg
  simp (maxSteps:=999999) (disch:=first|exact {}|omega|simp) [zS,hlt,hA,hg2,encK]
  (refine ⟨⟨q + 1,by omega⟩,by (simp; try omega), ?_⟩; constructor <;> (simp (maxSteps:=999999) (disch:=first|exact {}|omega|simp) [zS,hs]) <;> (try omega))
 ·obtain rfl:q = l.length:=by omega
  have:=mixR_all (m3 k) (l.map encK)
  rw [hel] at this
  simp (maxSteps:=999999) (disch:=first|exact {}|omega|simp) [zS,hlt,this]
theorem mark0K (s:Nat) (k:Int):PM E 53 [.sl ⟨s,[]⟩,.i (.i (.int .i64 k))] [⟨s,[]⟩] [.i (.int .i64 k)]:=by
 refine PM_start hE Proofs.Tryz.func53 rfl rfl Proofs.Tryz.ntmps53 (by kernel_rfl) (by kernel_rfl) (by simp) (by simp) ?_
 simp (maxSteps:=999999) (disch:=first|exact {}|omega|simp) [zS]
 refine XL.by hE (ι:=Unit) (fun _=>⟨[(0,.own 700000 0 0),(1,.i (.int .i64 k)),(5,.i (.int .i64 0))],[(700000,⟨s,[]⟩)]⟩)
  (fun _=>0) () ⟨by simp,by simp,by simp⟩ (by kernel_rfl) ?_
 rintro ⟨⟩
 simp (maxSteps:=999999) (disch:=first|exact {}|omega|simp) [zS]
theorem numK (l:List Cr):∀ el ∈ l.map encK,∀ x ∈ el,x.num = true:=fun el hel x hx=>by
 obtain ⟨a,-,rfl⟩:=List.mem_map.1 hel
 simp [encK] at hx
 rcases hx with rfl | rfl | rfl <;> rfl
theorem PDCrs (l:List Cr) (h:(l.length:Int) ≤ 1048576):PD E 48 [.i (.sl (l.map encK))] (.i (.sl (l.map encK))):=PD.of_own (c48 l h) (numK l)
theorem PWCrs (l:List Cr) (k:Int) (h0:0 ≤ k) (h1:k + 3 * l.length ≤ 1099511627776):PW E 53 (.i (.sl (l.map encK))) k (k + 3 * l.length) :=
 PW.of_pm (numK l) (fun el hel=>by obtain ⟨a,-,rfl⟩:=List.mem_map.1 hel; rfl) (c53 l k h0 h1) fun he s=>by
  have:l = []:=by simpa using he
  subst this
  refine ⟨⟨s,[]⟩, ?_⟩
  have:=mark0K s k
  simpa using this
theorem PDPat (ps:List Pt) (cs:List Cr) (h1:(ps.length:Int) ≤ 1048576) (h2:(cs.length:Int) ≤ 1048576):PD E 14 [.agg (encPa ps cs)] (.agg (encPa ps cs)):=by
 refine ⟨by kernel_rfl,fun F w cargs hG hlt hsz hrep=>?_⟩
 refine hand_start hE Proofs.Tryz.func14 rfl Proofs.Tryz.ntmps14 (by simp) hG hlt hsz hrep fun a hx hf=>?_
 refine segN hE 1 ⟨[(1,.ptr 1 0 0),(2,.ptr 2 0 0),(3,.ptr 3 0 0)],[(1,⟨2,[encPa ps cs]⟩),(2,⟨2,[[.sl [],.sl []]]⟩),(3,⟨2,[[.sl [],.sl []]]⟩)]⟩ hx hf (by kernel_rfl) (by kernel_rfl) ?_ fun a w1 hf=>?_
 ·simp (maxSteps:=999999) (disch:=first|exact {}|omega|simp) [zS,cutC,encPa]
  exact ⟨by simp (maxSteps:=999999) (disch:=first|exact {}|omega|simp) [zS],by simp (maxSteps:=999999) (disch:=first|exact {}|omega|simp) [zS,encPa],by simp (maxSteps:=999999) (disch:=first|exact {}|omega|simp) [zS]⟩
 simp only [restN]
 refine wp_seq (region_hand hE 2 (S1:=⟨[(5,.i (.sl (encPs ps))),(1,.ptr 1 0 0),(2,.ptr 2 0 0),(3,.ptr 3 0 0)],[(1,⟨2,[encPa ps cs]⟩),(2,⟨2,[[.sl [],.sl []]]⟩),(3,⟨2,[[.sl [],.sl []]]⟩)]⟩) hx hf (by kernel_rfl) rfl rfl ?_ fun a w1 hf=>?_)
 ·simp (maxSteps:=999999) (disch:=first|exact {}|omega|simp) [zS,encPa]
  exact ⟨by simp (maxSteps:=999999) (disch:=first|exact {}|omega|simp) [zS],by simp (maxSteps:=999999) (disch:=first|exact {}|omega|simp) [zS,encPa],by simp (maxSteps:=999999) (disch:=first|exact {}|omega|simp) [zS]⟩
 have hs1:w.heap.size ≤ w1.heap.size:=hf.size_le
 refine Oper.wp_mono ?_ (deepCall_wp hx hf (d:=6) rfl (by decide) (vs:=[.i (.sl (encPs ps))]) (by simp) (by simp) rfl (PDPts ps h1) [] (by simp) _)
 rintro a' w' ⟨z1,F1,R1,v1,us,hz1,hx1,hb1,-,hFR1,hG1,hm1,ht1,-,hf1⟩
 refine ⟨z1,_,_,⟨[(1,.ptr 1 0 0),(2,.ptr 2 0 0),(3,.ptr 3 0 0)],[(1,⟨2,[encPa ps cs]⟩),(2,⟨2,[[.sl [],.sl []]]⟩),(3,⟨2,[[.raw v1,.sl []]]⟩)]⟩,hx1,hf1.recast (u':=.i (.raw v1)) fun F ρ v h=>pin_raw h, ?_,fun a w2 hf=>?_⟩
 ·simp (maxSteps:=999999) (disch:=first|exact {}|omega|simp) [zS,encPa,pinT]
  exact ⟨by simp (maxSteps:=999999) (disch:=first|exact {}|omega|simp) [zS],by simp (maxSteps:=999999) (disch:=first|exact {}|omega|simp) [zS,encPa],by simp (maxSteps:=999999) (disch:=first|exact {}|omega|simp) [zS]⟩
 refine wp_seq (region_hand hE 2 (S1:=⟨[(9,.i (.sl (cs.map encK))),(1,.ptr 1 0 0),(2,.ptr 2 0 0),(3,.ptr 3 0 0)],[(1,⟨2,[encPa ps cs]⟩),(2,⟨2,[[.sl [],.sl []]]⟩),(3,⟨2,[[.raw v1,.sl []]]⟩)]⟩) hx1 hf (by kernel_rfl) rfl rfl ?_ fun a w3 hf=>?_)
 ·simp (maxSteps:=999999) (disch:=first|exact {}|omega|simp) [zS,encPa]
  exact ⟨by simp (maxSteps:=999999) (disch:=first|exact {}|omega|simp) [zS],by simp (maxSteps:=999999) (disch:=first|exact {}|omega|simp) [zS,encPa],by simp (maxSteps:=999999) (disch:=first|exact {}|omega|simp) [zS]⟩
 have hs3:=hf.size_le
 refine Oper.wp_mono ?_ (deepCall_wp hx1 hf (d:=10) rfl (by decide) (vs:=[.i (.sl (cs.map encK))]) (by simp) (by simp) rfl (PDCrs cs h2) [] (by simp) _)
 rintro a' w' ⟨z2,F2,R2,v2,us2,hz2,hx2,hb2,h02,hFR2,hG2,hm2,ht2,-,hf2⟩
 refine ⟨z2,_,_,⟨[(1,.ptr 1 0 0),(2,.ptr 2 0 0),(3,.ptr 3 0 0)],[(1,⟨2,[encPa ps cs]⟩),(2,⟨2,[[.sl [],.sl []]]⟩),(3,⟨2,[[.raw v1,.raw v2]]⟩)]⟩,hx2,hf2.recast (u':=.i (.raw v2)) fun F ρ v h=>pin_raw h, ?_,fun a w4 hf=>?_⟩
 ·simp (maxSteps:=999999) (disch:=first|exact {}|omega|simp) [zS,encPa,pinT]
  exact ⟨by simp (maxSteps:=999999) (disch:=first|exact {}|omega|simp) [zS],by simp (maxSteps:=999999) (disch:=first|exact {}|omega|simp) [zS,encPa],by simp (maxSteps:=999999) (disch:=first|exact {}|omega|simp) [zS]⟩
 refine end_hand hE ⟨[(1,.ptr 1 0 0),(2,.ptr 2 0 0),(3,.ptr 3 0 0)],[(1,⟨2,[encPa ps cs]⟩),(2,⟨2,[[.raw v1,.raw v2]]⟩),(3,⟨2,[[.raw v1,.raw v2]]⟩)]⟩ rfl (u:=.agg [.raw v1,.raw v2]) (by simp) hx2 hf (by kernel_rfl) ?_ fun a5 w5 F ρ v hfit hv=>?_
 ·simp (maxSteps:=999999) (disch:=first|exact {}|omega|simp) [zS]
  exact ⟨by simp (maxSteps:=999999) (disch:=first|exact {}|omega|simp) [zS],by simp (maxSteps:=999999) (disch:=first|exact {}|omega|simp) [zS,encPa],by simp (maxSteps:=999999) (disch:=first|exact {}|omega|simp) [zS]⟩
 have hf5:Fits z2 (fun b=>F2 b ∨ R2 b) _ _ a5 w5:=⟨F,ρ,hfit⟩
 have e1:∀ b,R1 b → w5.heap[b]? = z1.w.heap[b]?:=fun b hb=>(same_of_fits hx2 hf5 b (.inl (h02 b (.inr hb)))).trans (same_of_back hx1 hb2 b (.inr hb))
 have e2:∀ b,R2 b → w5.heap[b]? = z2.w.heap[b]?:=fun b hb=>same_of_fits hx2 hf5 b (.inr hb)
 rw [← hz1] at ht1
 rw [← hz2] at ht2
 have hsz0:=(hb1.kept).size
 refine ⟨v,fun b=>R1 b ∨ R2 b,rfl,((hb1.trans hb2).fits hf5).below0,agg_tree hv ⟨rfl,fun j b=>(j = 0 ∧ R1 b) ∨ (j = 1 ∧ R2 b),fun j b hb=>hb.imp (·.2) (·.2),fun j j' b h h'=>?_,fun c y hy=>?_⟩,fun b hb=>?_,fun b hb=>?_⟩
 ·rcases h with ⟨rfl,h⟩ | ⟨rfl,h⟩ <;> rcases h' with ⟨rfl,h'⟩ | ⟨rfl,h'⟩
  ·rfl
  ·exact absurd h' (hFR2 b (h02 b (.inr h)))
  ·exact absurd h (hFR2 b (h02 b (.inr h')))
  ·rfl
 ·match c with
  | 0 =>
   simp [encPa] at hy; subst hy
   exact ⟨_,v1,rfl,.inl rfl,TRep.mono ht1.tr (fun b hb=>.inl ⟨rfl,hb⟩) e1⟩
  | 1 =>
   simp [encPa] at hy; subst hy
   exact ⟨_,v2,rfl,.inl rfl,TRep.mono ht2.tr (fun b hb=>.inr ⟨rfl,hb⟩) e2⟩
  | c + 2=>simp [encPa] at hy
 ·rcases hb with hb | hb
  ·exact Nat.le_trans hs1 (ht1.new b hb)
  ·have h5:w.heap.size ≤ z1.w.heap.size:=hsz0
   exact Nat.le_trans h5 (Nat.le_trans hs3 (ht2.new b hb))
 ·rcases hb with hb | hb
  ·exact hf5.lt_of b (.inl (h02 b (.inr hb)))
  ·exact hf5.lt_of b (.inr hb)
theorem PWPat (ps:List Pt) (cs:List Cr) (k:Int) (h0:0 ≤ k) (h1:k + 6 * ps.length + 3 * cs.length ≤ 1099511627776):PW E 18 (.agg (encPa ps cs)) k (k + 6 * ps.length + 3 * cs.length):=by
 refine ⟨by kernel_rfl,fun F R w v hG hlt hFR ht hRlt=>?_⟩
 obtain ⟨cv,Rs,rfl,t1,t2,t3,t4⟩:=ht
 have hsz:cv.size = 2:=by rw [t1]; rfl
 obtain ⟨v1,v2,rfl⟩:∃ v1 v2,cv = #[v1,v2]:=by
  refine ⟨cv[0],cv[1], ?_⟩
  refine Array.ext (by simp [hsz]) fun j h1 h2=>?_
  match j,h2 with
  | 0,_=>rfl
  | 1,_=>rfl
 have T1:=t4 0 (.sl (encPs ps)) v1 rfl rfl
 have T2:=t4 1 (.sl (cs.map encK)) v2 rfl rfl
 refine aggW_start Proofs.Tryz.func18 rfl Proofs.Tryz.ntmps18 (by decide) hG hlt hFR (fun j u hj=>?_) fun z1 F1 a hx hb hz1 hO hf=>?_
 ·match j,hj with
  | 0,hj=>obtain rfl:=Option.some.inj hj; exact T1.rep.oneCell
  | 1,hj=>obtain rfl:=Option.some.inj hj; exact T2.rep.oneCell
  | j + 2,hj=>simp at hj
 have O1:=hO (Rs 0) fun b hb=>⟨t2 0 b hb,hRlt b (t2 0 b hb)⟩
 have O2:=hO (Rs 1) fun b hb=>⟨t2 1 b hb,hRlt b (t2 1 b hb)⟩
 refine segN hE 0 ⟨[(2,.ptr 2 0 0),(1,.i (.int .i64 k))],[(2,⟨2,[[.raw v1,.raw v2]]⟩)]⟩ hx hf (by kernel_rfl) (by kernel_rfl) ?_ fun a w1 hf=>?_
 ·simp (maxSteps:=999999) (disch:=first|exact {}|omega|simp) [zS,cutC]
  exact ⟨by simp (maxSteps:=999999) (disch:=first|exact {}|omega|simp) [zS],by simp (maxSteps:=999999) (disch:=first|exact {}|omega|simp) [zS],by simp (maxSteps:=999999) (disch:=first|exact {}|omega|simp) [zS]⟩
 simp only [restN]
 refine wp_seq (region_hand hE 3 (S1:=⟨[(6,.i (.raw v1)),(7,.i (.int .i64 k)),(2,.ptr 2 0 0)],[(2,⟨2,[[.raw v1,.raw v2]]⟩)]⟩) hx hf (by kernel_rfl) rfl rfl ?_ fun a w2 hf=>?_)
 ·simp (maxSteps:=999999) (disch:=first|exact {}|omega|simp) [zS]
  exact ⟨by simp (maxSteps:=999999) (disch:=first|exact {}|omega|simp) [zS],by simp (maxSteps:=999999) (disch:=first|exact {}|omega|simp) [zS],by simp (maxSteps:=999999) (disch:=first|exact {}|omega|simp) [zS]⟩
 refine Oper.wp_mono ?_ (rawMark_wp hx hb hf O1 (d:=8) rfl (by decide) rfl (by simp) (by simp) (PWPts ps k h0 (by omega)) (TRep.mono T1 (fun _ h=>h) fun b hb=>by rw [hz1]) _)
 rintro a' w' ⟨z2,F2,hz2,hx2,hb2,hf2,hO2,hS2⟩
 refine ⟨z2,F2,_,⟨[(1,.i (.int .i64 (k + 6 * ps.length))),(2,.ptr 2 0 0)],[(2,⟨2,[[.raw v1,.raw v2]]⟩)]⟩,hx2,hf2, ?_,fun a w3 hf=>?_⟩
 ·simp (maxSteps:=999999) (disch:=first|exact {}|omega|simp) [zS]
  exact ⟨by simp (maxSteps:=999999) (disch:=first|exact {}|omega|simp) [zS],by simp (maxSteps:=999999) (disch:=first|exact {}|omega|simp) [zS],by simp (maxSteps:=999999) (disch:=first|exact {}|omega|simp) [zS]⟩
 show Code.wp _ _ _ _ _
 refine wp_seq (region_hand hE 3 (S1:=⟨[(10,.i (.raw v2)),(11,.i (.int .i64 (k + 6 * ps.length))),(2,.ptr 2 0 0)],[(2,⟨2,[[.raw v1,.raw v2]]⟩)]⟩) hx2 hf (by kernel_rfl) rfl rfl ?_ fun a w4 hf=>?_)
 ·simp (maxSteps:=999999) (disch:=first|exact {}|omega|simp) [zS]
  exact ⟨by simp (maxSteps:=999999) (disch:=first|exact {}|omega|simp) [zS],by simp (maxSteps:=999999) (disch:=first|exact {}|omega|simp) [zS],by simp (maxSteps:=999999) (disch:=first|exact {}|omega|simp) [zS]⟩
 have hz2s:∀ b,Rs 1 b → z2.w.heap[b]? = w.heap[b]?:=fun b hb=>by
  rw [hz2,hS2 (Rs 1) b O2 hb fun h=>by have:=t3 0 1 b h hb; omega,hz1]
 refine Oper.wp_mono ?_ (rawMark_wp hx2 hb2 hf (hO2 _ O2) (d:=12) rfl (by decide) rfl (by simp) (by simp) (PWCrs cs (k + 6 * ps.length) (by omega) (by omega)) (TRep.mono T2 (fun _ h=>h) hz2s) _)
 rintro a' w' ⟨z3,F3,hz3,hx3,hb3,hf3,hO3,hS3⟩
 refine ⟨z3,F3,_,⟨[(1,.i (.int .i64 (k + 6 * ps.length + 3 * cs.length)))],[]⟩,hx3,hf3, ?_,fun a w5 hf=>?_⟩
 ·simp (maxSteps:=999999) (disch:=first|exact {}|omega|simp) [zS]
  exact ⟨by simp (maxSteps:=999999) (disch:=first|exact {}|omega|simp) [zS],by simp (maxSteps:=999999) (disch:=first|exact {}|omega|simp) [zS],by simp (maxSteps:=999999) (disch:=first|exact {}|omega|simp) [zS]⟩
 show Code.wp _ _ _ _ _
 refine end_hand hE ⟨[(4,.i (.int .i64 (k + 6 * ps.length + 3 * cs.length)))],[]⟩ rfl (u:=.i (.int .i64 (k + 6 * ps.length + 3 * cs.length))) (by simp) hx3 hf (by kernel_rfl) ?_ fun a5 w5 F5 ρ v hfit hv=>?_
 ·simp (maxSteps:=999999) (disch:=first|exact {}|omega|simp) [zS]
  exact ⟨by simp (maxSteps:=999999) (disch:=first|exact {}|omega|simp) [zS],by simp (maxSteps:=999999) (disch:=first|exact {}|omega|simp) [zS],by simp (maxSteps:=999999) (disch:=first|exact {}|omega|simp) [zS]⟩
 obtain rfl:=hv.int_inv
 have hf5:Fits z3 F3 _ _ a5 w5:=⟨F5,ρ,hfit⟩
 exact ⟨rfl,hb3.kept.trans_of hb3.mine hfit.below⟩
end Go.Vai
