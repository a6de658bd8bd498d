/- Texts of this claim: Zw17, Zw18. -/
import Derived.Test.YtiipeibaiphmpaaGreatDoorTv18
import Derived.Sort.Grow
import Derived.Sort.Statements
set_option linter.unusedVariables false
set_option linter.unusedSimpArgs false
set_option maxHeartbeats 4000000
namespace Go.Vai
theorem Below.grows {w w':World} (h:Below w.heap.size w w'):∃ (q:Nat) (os:Array _root_.Go.Obj),w' = Go.Sort.grow (Go.Sort.ahead w q) os:=by
 refine ⟨w'.drawn - w.drawn,w'.heap.extract w.heap.size w'.heap.size, ?_⟩
 obtain ⟨h1,h2,h3,h4,h5,h6⟩:=h
 obtain ⟨hp,tp,dr,o,out⟩:=w'
 obtain ⟨hp0,tp0,dr0,o0,out0⟩:=w
 simp only at h1 h2 h3 h4 h5 h6
 subst h1 h2 h3
 simp only [Go.Sort.grow,Go.Sort.ahead,World.mk.injEq]
 refine ⟨?_,trivial,by omega,trivial,trivial⟩
 refine Array.ext_getElem? fun i=>?_
 by_cases hi:i < hp0.size
 ·rw [h5 i hi,Array.getElem?_append_left hi]
 ·rw [Array.getElem?_append_right (by omega),Array.getElem?_extract]
  by_cases hi2:i < hp.size
  ·rw [if_pos (by omega),show hp0.size + (i - hp0.size) = i by omega]
  ·rw [if_neg (by omega),Array.getElem?_eq_none (by omega)]
theorem repR_int {F:Nat → Prop} {B:Nat} {w:World} {l:Option Loc} {v:Value} {r:Int} (h:RepR F B w l (.i (.int .i64 r)) v):v = .int .i64 r:=by
 cases h with
 | i l x v h=>cases h; rfl
end Go.Vai
namespace Go.Vai
theorem sorted_row {α:Type} [Inhabited α] {enc:α → Value} {w w':World} {blk off n:Nat} {d:Array α} {os:Array _root_.Go.Obj} {cs:Array Value} {ty:TypeId} (hb:w.heap[blk]? = some (.cells cs ty (0,0))) (hfit:off + d.size ≤ cs.size)
  (he:w' = Go.Sort.grow (Go.Sort.putRow enc (Go.Sort.ahead w n) blk off d) os) :
  w'.os = w.os ∧ w'.tape = w.tape ∧ w'.output = w.output ∧ w.heap.size ≤ w'.heap.size ∧ w.drawn ≤ w'.drawn ∧ (∀ b,b < w.heap.size → b ≠ blk → w'.heap[b]? = w.heap[b]?) ∧
   ∃ cs',w'.heap[blk]? = some (.cells cs' ty (0,0)) ∧ cs'.size = cs.size ∧ ∀ (j:Nat) (hj:j < d.size),cs'[off + j]? = some (enc d[j]):=by
 subst he
 have hg:blk < w.heap.size:=(Array.getElem?_eq_some_iff.1 hb).1
 refine ⟨rfl,rfl,rfl,by simp [Go.Sort.grow,Go.Sort.putRow,Go.Sort.mapBlock,Go.Sort.ahead],Nat.le_add_right _ _,fun b h1 h2=>?_,Go.Sort.putCells enc off d cs, ?_,by simp [Go.Sort.putCells],fun j hj=>?_⟩
 ·rw [Go.Sort.heap_grow_old _ _ (by simpa using h1)]
  simp only [Go.Sort.putRow,Go.Sort.mapBlock,Go.Sort.ahead,Array.getElem?_modify]
  rw [if_neg (fun e=>h2 e.symm)]
 ·rw [Go.Sort.heap_grow_old _ _ (by simpa using hg)]
  simp [Go.Sort.putRow,Go.Sort.mapBlock,Go.Sort.ahead,Array.getElem?_modify,hb,Go.Sort.onCells]
 ·have hlt:off + j < cs.size:=by omega
  simp [Go.Sort.putCells,hlt,hj]
theorem sorted_list {α:Type} [Inhabited α] {lt:α → α → Bool} {d d':Array α} (hp:Go.Sort.PermIn 0 d.size d d') (hs:Go.Sort.SortedIn lt 0 d.size d'):d'.size = d.size ∧ d'.toList.Perm d.toList ∧ d'.toList.Pairwise fun a b=>lt b a = false:=by
 obtain ⟨h1,-,h3⟩:=hp
 refine ⟨h1, ?_, ?_⟩
 ·rw [Array.extract_size] at h3
  rw [← h1,Array.extract_size] at h3
  exact h3
 ·rw [List.pairwise_iff_getElem]
  intro i j hi hj hij
  have hi':i < d'.size:=by simpa using hi
  have hj':j < d'.size:=by simpa using hj
  have:=hs i j (Nat.zero_le _) hij (by omega)
  rw [getElem!_pos d' i hi',getElem!_pos d' j hj'] at this
  simpa using this
end Go.Vai
