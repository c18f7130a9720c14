/- Part 19 of the proof that the law FnCheck holds of every input; no condition. -/
import Derived.Test.YtdpapeledldifaaGreatX17
set_option autoImplicit true
set_option relaxedAutoImplicit true
set_option linter.all false
section
namespace Go.TM
open Go.AM
section
variable {X Y R:Type}
def zCY (f:X→Option (X ⊕ Y)):Nat→X→Option Y
 | 0,_=>none
 | n+1,x=>match f x with
   | some (.inl x')=>zCY f n x'
   | some (.inr y)=>some y
   | none=>none
noncomputable def zAF (f:X→Option (X ⊕ Y)) (x:X):Option Y:=@dite _ (∃ y n,zCY f n x=some y) (Classical.propDecidable _) (fun h=>some (Classical.choose h)) (fun _=>none)
theorem zFF {f:X→Option (X ⊕ Y)}:∀ {n m:Nat} {x:X} {y:Y},n≤m→zCY f n x=some y→zCY f m x=some y
 | 0,_,_,_,_,h=>by cases h
 | n+1,0,_,_,hm,_=>by omega
 | n+1,m+1,x,y,hm,h=>by
   simp only [zCY] at h ⊢
   split at h
   ·exact zFF (by omega) h
   ·exact h
   ·cases h
theorem zTG {f:X→Option (X ⊕ Y)} {n m:Nat} {x:X} {y z:Y} (h1:zCY f n x=some y) (h2:zCY f m x=some z):y=z:=by
 have a:=zFF (Nat.le_max_left n m) h1
 have b:=zFF (Nat.le_max_right n m) h2
 rw [a] at b
 exact Option.some.inj b
theorem zDr {f:X→Option (X ⊕ Y)} {x:X} {y:Y} (h:zAF f x=some y):∃ n,zCY f n x=some y:=by
 unfold zAF at h
 split at h
 ·rename_i hex
  simp only [Option.some.injEq] at h
  subst h
  exact Classical.choose_spec hex
 ·cases h
theorem zHT {f:X→Option (X ⊕ Y)} {x:X} {y:Y} {n:Nat} (h:zCY f n x=some y):zAF f x=some y:=by
 unfold zAF
 have hex:∃ y n,zCY f n x=some y:=⟨y,n,h⟩
 rw [dif_pos hex]
 congr 1
 obtain ⟨m,hm⟩:=Classical.choose_spec hex
 exact zTG hm h
theorem zAk (f:X→Option (X ⊕ Y)) (x:X):zAF f x=match f x with
  | some (.inl x')=>zAF f x'
  | some (.inr y)=>some y
  | none=>none:=by
 cases hf:f x with
 | none =>
   simp only
   cases h:zAF f x with
   | none=>rfl
   | some y =>
     obtain ⟨n,hn⟩:=zDr h
     cases n with
     | zero=>cases hn
     | succ n=>simp only [zCY,hf] at hn;cases hn
 | some z =>
   cases z with
   | inl x' =>
     simp only
     cases h:zAF f x' with
     | some y =>
       obtain ⟨n,hn⟩:=zDr h
       exact zHT (n:=n+1) (by simp only [zCY,hf];exact hn)
     | none =>
       cases h2:zAF f x with
       | none=>rfl
       | some y =>
         obtain ⟨n,hn⟩:=zDr h2
         cases n with
         | zero=>cases hn
         | succ n =>
           simp only [zCY,hf] at hn
           rw [zHT hn] at h;cases h
   | inr y=>exact zHT (n:=1) (by simp only [zCY,hf])
def bindE (x:Option (Y ⊕ R)) (k:Y→Option R):Option R:=match x with
 | some (.inl y)=>k y
 | some (.inr r)=>some r
 | none=>none
def mapR (x:Option R):Option (Y ⊕ R):=match x with
 | some r=>some (.inr r)
 | none=>none
theorem zDg {x:Option R} {z:Y ⊕ R} (h:mapR x=some z):∃ r,z = .inr r∧x=some r:=by
 cases x with
 | none=>cases h
 | some r=>simp only [mapR,Option.some.injEq] at h;exact ⟨r,h.symm,rfl⟩
theorem zJN {x:Option (Y ⊕ R)} {k:Y→Option R} {r:R} (h:bindE x k=some r):(∃ y,x=some (.inl y)∧k y=some r)∨x=some (.inr r):=by
 unfold bindE at h
 split at h
 ·exact .inl ⟨_,rfl,h⟩
 ·simp only [Option.some.injEq] at h;subst h;exact .inr rfl
 ·cases h
def seqU (x:Option Unit) (k:Option R):Option R:=match x with | some _=>k | none=>none
theorem zPM {x:Option Unit} {k:Option R} {r:R} (h:seqU x k=some r):x=some ()∧k=some r:=by
 cases x with
 | none=>cases h
 | some u=>exact ⟨rfl,h⟩
end
def GT.decEq:(t:GT)→DecidableEq t.Den
 | .int _=>(inferInstance:DecidableEq Int)
 | .byte=>(inferInstance:DecidableEq UInt8)
 | .bool=>(inferInstance:DecidableEq Bool)
 | .str=>(inferInstance:DecidableEq (List UInt8))
 | .sl t=>@instDecidableEqList t.Den t.decEq
 | .unit=>(inferInstance:DecidableEq Unit)
 | .pair a b=>@instDecidableEqProd a.Den b.Den a.decEq b.decEq
mutual
def eqVb:V→V→Bool
 | .i k n,.i k' n'=>eqK k k' && decide (n=n')
 | .b x,.b y=>decide (x=y)
 | .s x,.s y=>decide (x=y)
 | .sl t l,.sl t' l'=>(match hs:t.same t' with
   | true=>@decide (l=zDp hs l') ((GT.sl t).decEq l (zDp hs l'))
   | false=>false)
 | .ar a,.ar b=>a == b
 | .p a b c,.p a' b' c'=>a == a' && b == b' && c == c'
 | .ro c,.ro c'=>zQA c c'
 | .agg xs,.agg ys=>zQA xs ys
 | .nilp,.nilp=>true
 | .nil,.nil=>true
 | .sk,.sk=>true
 | .u,.u=>true
 | .fn f c,.fn f' c'=>f == f' && zQA c c'
 | _,_=>false
def zQA:List V→List V→Bool
 | [],[]=>true
 | x :: xs,y :: ys=>eqVb x y && zQA xs ys
 | _,_=>false
end
mutual
theorem eqVb_e:∀ (x y:V),eqVb x y=true→e x=e y:=by
 intro x y h
 cases x <;> cases y <;> simp only [eqVb] at h <;> try (cases h;done)
 case i.i=>simp only [eqK,Bool.and_eq_true,decide_eq_true_eq] at h;rw [h.1,h.2]
 case b.b=>rw [of_decide_eq_true h]
 case s.s=>rw [of_decide_eq_true h]
 case sl.sl t l t' l' =>
  split at h
  ·rename_i hs
   have:=@of_decide_eq_true _ ((GT.sl t).decEq l (zDp hs l')) h
   simp only [e]
   rw [this,zBO,zBb hs]
  ·cases h
 case ar.ar=>rw [eq_of_beq h]
 case p.p=>simp only [Bool.and_eq_true,beq_iff_eq] at h;obtain ⟨⟨rfl,rfl⟩,rfl⟩:=h;rfl
 case ro.ro c c'=>simp only [e,zNA c c' h]
 case agg.agg c c'=>simp only [e,zNA c c' h]
 case fn.fn f c f' c' =>
  simp only [Bool.and_eq_true,beq_iff_eq] at h
  simp only [e,h.1,zNA c c' h.2]
 all_goals rfl
theorem zNA:∀ (x y:List V),zQA x y=true→eL x=eL y
 | [],[],_=>rfl
 | [],_ :: _,h=>by simp [zQA] at h
 | _ :: _,[],h=>by simp [zQA] at h
 | x :: xs,y :: ys,h=>by
   simp only [zQA,Bool.and_eq_true] at h
   simp only [eL,eqVb_e x y h.1,zNA xs ys h.2]
end
end Go.TM
end
