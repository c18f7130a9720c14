/- Part 35 of the proof that the law FnPool holds of every input; no condition. -/
import Derived.Test.YtdpapeledldifaaGreatX33
set_option autoImplicit true
set_option relaxedAutoImplicit true
set_option linter.all false
section
namespace Go.Proofs.YtdpapeledldifaaGreat
open Go Go.AM Go.TM Go.Stow
set_option maxRecDepth 10000
theorem pr15 (p : List Cst) (hp : bndP p) : F15 p = some (poolR p) := by
 have hpl := hp.1
 simp only [F15, cndO_d, cndO_n]
 suffices h : ∀ (m i : Nat), i + m = min p.length 60 → ∀ k : List Cst → Option Int, k p = some (if (60 : Int) < p.length then 61 else 0) → bindE (whileO (fun (x : List Cst × Int) =>
   bindE (if x.2 < (x.1.length : Int) then if x.2 < 60 then some (Sum.inl (x.1, x.2)) else some (Sum.inr (Sum.inr (Sum.inl x.1))) else some (Sum.inr (Sum.inr (Sum.inl x.1)))) fun (pool2, i1) =>
   bindO (F53 (pool2, i1)) fun y =>
   cndO y (some (Sum.inl (pool2, IntKind.wrap .i64 (i1 + 1)))) (some (Sum.inr (Sum.inr (IntKind.wrap .i64 (i1 + 1)))))) (p, (i : Int))) k = some (if poolC p m i = 0 then (if (60 : Int) < p.length then 61 else 0) else poolC p m i) by
  refine h (min p.length 60) 0 (by omega) _ ?_
  split <;> rfl
 intro m
 induction m with
 | zero =>
  intro i hi k hk
  rw [while_end (y := .inl p), bindE_l, hk]
  ·rfl
  ·by_cases h1 : (i : Int) < p.length
   ·have h2 : ¬ (i : Int) < 60 := by omega
    simp only [h1, h2, if_true, if_false, bindE_r]
   ·simp only [h1, if_false, bindE_r]
 | succ m ih =>
  intro i hi k hk
  have h1 : (i : Int) < p.length := by omega
  have h2 : (i : Int) < 60 := by omega
  have hlt : i < p.length := by omega
  unfold poolC
  rw [dif_pos hlt]
  by_cases he : EntOk p p[i]
  ·rw [if_pos he, ← ih (i + 1) (by omega) k hk, while_on]
   simp only [h1, h2, if_true, bindE_l, q53 p i hp hlt, bindO_s, he, decide_true, cndO_t]
   rw [wI (by omega) (by omega)]
   rfl
  ·rw [if_neg he, if_neg (by omega), while_end (y := .inr ((i : Int) + 1)), bindE_r]
   simp only [h1, h2, if_true, bindE_l, q53 p i hp hlt, bindO_s, he, decide_false, cndO_f]
   rw [wI (by omega) (by omega)]
theorem pr14 (p : List Cst) (hp : bndP p) : F14 p = some (poolR p) := by
 have hpl := hp.1
 simp only [F14, cndO_d, cndO_n]
 suffices h : ∀ (m i : Nat), i + m = min p.length 60 → bindE (whileO (fun (x : List Cst × List Cst × Int × Int) =>
   if x.2.2.2 < x.2.2.1 then
    grdO (decide ((0 : Int) ≤ x.2.2.2)) (atO x.2.1 (Int.toNat x.2.2.2) fun y => if x.2.2.2 = 60 then some (Sum.inr (Sum.inr (61 : Int))) else
     bindO (F52 (x.1, y.1, y.2.1, y.2.2.1, y.2.2.2)) fun z =>
     cndO z (some (Sum.inl (x.1, x.2.1, x.2.2.1, IntKind.wrap .i64 (x.2.2.2 + 1)))) (some (Sum.inr (Sum.inr (IntKind.wrap .i64 (x.2.2.2 + 1))))))
   else some (Sum.inr (Sum.inl ()))) (p, p, (p.length : Int), (i : Int))) (fun _ : Unit => some (0 : Int)) = some (if poolC p m i = 0 then (if (60 : Int) < p.length then 61 else 0) else poolC p m i) by
  exact h (min p.length 60) 0 (by omega)
 intro m
 induction m with
 | zero =>
  intro i hi
  show _ = some (if (0 : Int) = 0 then (if (60 : Int) < p.length then 61 else 0) else 0)
  rw [if_pos rfl]
  by_cases h1 : (i : Int) < p.length
  ·have h2 : (i : Int) = 60 := by omega
   have h0 : (0 : Int) ≤ i := by omega
   have hlt : i < p.length := by omega
   rw [while_end (y := .inr 61), bindE_r, if_pos (by omega)]
   simp (discharger := assumption) only [h1, h0, if_true, decide_true, grdO_t, Int.toNat_natCast, atO_get]
   rw [if_pos h2]
  ·rw [while_end (y := .inl ()) (by simp only [h1, if_false]), bindE_l, if_neg (by omega)]
 | succ m ih =>
  intro i hi
  have h1 : (i : Int) < p.length := by omega
  have h0 : (0 : Int) ≤ i := by omega
  have h2 : ¬ (i : Int) = 60 := by omega
  have hlt : i < p.length := by omega
  have hq := q52 p p[i] hp (hp.2 _ (List.getElem_mem hlt))
  unfold poolC
  rw [dif_pos hlt]
  by_cases he : EntOk p p[i]
  ·rw [if_pos he, ← ih (i + 1) (by omega), while_on]
   simp (discharger := assumption) only [h1, h2, h0, if_true, if_false, decide_true, grdO_t, Int.toNat_natCast, atO_get, hq, bindO_s, he, cndO_t]
   rw [wI (by omega) (by omega)]
   rfl
  ·rw [if_neg he, if_neg (by omega), while_end (y := .inr ((i : Int) + 1)), bindE_r]
   simp (discharger := assumption) only [h1, h2, h0, if_true, if_false, decide_true, grdO_t, Int.toNat_natCast, atO_get, hq, bindO_s, he, decide_false, cndO_f]
   rw [wI (by omega) (by omega)]
theorem bnd_app {p:List Cst} {x:Cst} (hl:p.length≤100) (ht:∀ x∈p,x.2.1.length≤255) (hx:x.2.1.length≤255):bndP (p++[x]):=by
 refine ⟨by simp only [List.length_append,List.length_cons,List.length_nil];omega,fun y hy=>?_⟩
 simp only [List.mem_append,List.mem_singleton] at hy
 rcases hy with hy | rfl
 ·have:=ht y hy;omega
 ·omega
theorem true3 (code:List UInt8):F3 code=some true:=by
 have hgo:Tot (F3 code) fun b=>b=true:=by
  unfold F3
  refine Tot.cnd (fun _=>Tot.ret rfl) fun _=>Tot.bind (t13 code) ?_
  rintro p ⟨hl,ht⟩
  have hb:bndP p:=⟨by omega,fun x hx=>by have:=ht x hx;omega⟩
  have hr:=poolR_ran p
  rw [pr14 p hb,bindO_s]
  refine Tot.bindE (fun z=>∃ b,z=(p,poolR p,b)∧(b=false→poolR p=0∧p.length<60)) ?_ ?_
  ·rw [pr15 p hb,bindO_s]
   refine Tot.cnd (fun _=>Tot.ret ⟨_,rfl,by simp⟩) fun _=>Tot.cnd (fun _=>Tot.ret ⟨_,rfl,by simp⟩) fun h=>Tot.ret ⟨_,rfl,fun h'=>?_⟩
   simp only [Bool.not_eq_false',decide_eq_true_eq,decide_eq_false_iff_not] at h h'
   exact ⟨h,by omega⟩
  rintro _ ⟨b,rfl,hz⟩
  refine Tot.cnd (fun _=>?_) fun h=>?_
  ·show Tot (bindO (F15 p) _) _
   rw [pr15 p hb,bindO_s]
   refine Tot.cnd (fun _=>Tot.cnd (fun _=>Tot.ret ?_) fun h=>?_) fun h=>?_
   ·simp only [decide_eq_true_eq];exact hr.2
   ·simp only [decide_eq_false_iff_not] at h;exact absurd hr.1 h
   ·simp only [decide_eq_false_iff_not] at h;exact absurd trivial h
  ·obtain ⟨h0,h60⟩:=hz h
   have hok:=(poolR_ok (by omega)).1 h0
   have hg:poolR (p++[(1,fresh,0,0)])=0:=(poolR_ok (by simp only [List.length_append,List.length_cons,List.length_nil];omega)).2 (pool_good hok)
   have hbad:=pool_bad hok h60
   have hw:IntKind.wrap .i64 ((p.length:Int)+1)=(p.length:Int)+1:=wrapI (by omega) (by omega)
   refine Tot.grd (by simp;omega) (Tot.grd (by simp;omega) (Tot.grd (by simp;omega) (Tot.grd (by simp;omega) ?_)))
   refine Tot.bind (P:=fun y=>y=0) ⟨_,pr14 (p++[(1,fresh,0,0)]) (bnd_app hl ht (by simp [fresh])),hg⟩ ?_
   rintro _ rfl
   refine Tot.cnd (fun _=>?_) fun h=>?_
   ·simp only [hw]
    refine Tot.bind (P:=fun y=>y=(p.length:Int)+1) ⟨_,pr14 (p++[(2,[],(p.length:Int)+1,0)]) (bnd_app hl ht (by simp)),hbad⟩ ?_
    rintro _ rfl
    exact Tot.ret (by simp)
   ·simp at h
 obtain ⟨a,e,h⟩:=hgo
 rw [e,h]
end Go.Proofs.YtdpapeledldifaaGreat
end
section
namespace Go.Proofs.YtdpapeledldifaaGreat
theorem fnPool : Rows.FnPoolSaid := fnPool_of true3
end Go.Proofs.YtdpapeledldifaaGreat
end
