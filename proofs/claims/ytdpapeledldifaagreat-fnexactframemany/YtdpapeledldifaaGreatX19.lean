/- Part 20 of the proof that, for every class, FrameMany of the code and of the specification agree; no condition. -/
import Derived.Test.YtdpapeledldifaaGreatX18
set_option autoImplicit true
set_option relaxedAutoImplicit true
set_option linter.all false
section
namespace Go.Proofs.YtdpapeledldifaaGreat
open Go Go.AM Go.TM
theorem q228 (a b : List Frm) (ha : a.length ≤ 1048576) (hb : ∀ x ∈ a, bFrm x) : F228 (a, b) = some (decide (a = b)) := by
 simp only [F228, cndO_n, cndO_d]
 by_cases hl : (a.length : Int) = b.length
 ·have hl' : a.length = b.length := by omega
  rw [if_pos hl]
  refine (cmp_loop (fun i => (a, b, (i : Int))) () false a b hl' rfl ?_ ?_).trans if_tf
  ·simp only [Int.lt_irrefl, decide_false, cndO_f, if_false]
  ·intro i h h'
   have hi : (i : Int) < a.length := by omega
   have h0 : (0 : Int) ≤ i := by omega
   have b1 := hb _ (List.getElem_mem h)
   have hq1 := q282 a[i].2.1 b[i].2.1 b1.1
   have hq2 := q282 a[i].2.2 b[i].2.2 b1.2
   simp (discharger := omega) only [hi, hl.symm, h0, decide_true, cndO_t, if_true, grdO_t, Int.toNat_natCast, atO_get, hq1, hq2, bindO_s, cndO_n, cndO_d, bindE_if, wI]
   generalize a[i] = x
   generalize b[i] = y
   obtain ⟨x0, x1, x2⟩ := x; obtain ⟨y0, y1, y2⟩ := y
   by_cases e0 : x0 = y0 <;> by_cases e1 : x1 = y1 <;> by_cases e2 : x2 = y2 <;> simp (discharger := omega) only [e0, e1, e2, Prod.mk.injEq, if_true, if_false, and_true, and_false, bindE_l, bindE_r, true_and, false_and, wI] <;> rfl
 ·rw [if_neg hl]
  have : a ≠ b := fun h => hl (by rw [h])
  simp [this]
theorem if_and {p q : Prop} [Decidable p] [Decidable q] : (if p then some (decide q) else some false : Option Bool) = some (decide (p ∧ q)) := by by_cases h : p <;> simp [h]
theorem q153 (x y : Mth) (h : bMth x) : F153 (x, y) = some (decide (x = y)) := by
 obtain ⟨a0, a1, a2, a3, a4, a5, a6, a7⟩ := x; obtain ⟨b0, b1, b2, b3, b4, b5, b6, b7⟩ := y
 obtain ⟨h1, h2, h3, h4⟩ := h
 simp only at h1 h2 h3 h4
 simp only [F153, q228 a7 b7 h3 h4, cndO_n, cndO_d, bindE_if, bindE_r, bindE_l, Prod.mk.injEq]
 by_cases e0 : a0 = b0
 ·by_cases e1 : a1 = b1
  ·by_cases e2 : a2 = b2
   ·by_cases e3 : a3 = b3
    ·by_cases e4 : a4 = b4
     ·by_cases e5 : a5 = b5
      ·by_cases hl : (a6.length : Int) = b6.length
       ·have hl' : a6.length = b6.length := by omega
        simp only [e0, e1, e2, e3, e4, e5, hl, if_true, true_and]
        refine (cmp_loop (fun i => ((i : Int), (b0, b1, b2, b3, b4, b5, a6, a7), b0, b1, b2, b3, b4, b5, b6, b7)) ((b0, b1, b2, b3, b4, b5, a6, a7), b0, b1, b2, b3, b4, b5, b6, b7) false a6 b6 hl' rfl ?_ ?_).trans ?_
        ·simp only [Int.lt_irrefl, if_false]
        ·intro i h h'
         have hi : (i : Int) < a6.length := by omega
         have h0 : (0 : Int) ≤ i := by omega
         simp (discharger := omega) only [hi, hl.symm, h0, decide_true, cndO_t, if_true, grdO_t, Int.toNat_natCast, atO_get, row4, cndO_d, wI]
         rfl
        ·simp only [q228 a7 b7 h3 h4, bindO_s]
         exact if_and
       ·have : a6 ≠ b6 := fun h => hl (by rw [h])
        simp [*]
      ·simp [*]
     ·simp [*]
    ·simp [*]
   ·simp [*]
  ·simp [*]
 ·simp [*]
theorem q70 (x y : Cls) (h : bCls x) : F70 (x, y) = some (decide (x = y)) := by
 obtain ⟨a0, a1, a2, a3, a4, a5, a6⟩ := x; obtain ⟨b0, b1, b2, b3, b4, b5, b6⟩ := y
 obtain ⟨⟨h1, _⟩, h2, h3, h4, h5⟩ := h
 simp only at h1 h2 h3 h4 h5
 simp only [F70, q152 a0 b0 h1, bindO_s, cndO_n, cndO_d, bindE_if, bindE_r, bindE_l, Prod.mk.injEq]
 by_cases e0 : a0 = b0
 ·by_cases e1 : a1 = b1
  ·by_cases e2 : a2 = b2
   ·by_cases e3 : a3 = b3
    ·by_cases l4 : (a4.length : Int) = b4.length
     ·by_cases l5 : (a5.length : Int) = b5.length
      ·by_cases l6 : (a6.length : Int) = b6.length
       ·have l4' : a4.length = b4.length := by omega
        have l5' : a5.length = b5.length := by omega
        have l6' : a6.length = b6.length := by omega
        simp only [e0, e1, e2, e3, l4, l5, l6, if_true, true_and]
        refine (cmp_loop (fun i => ((i : Int), (b0, b1, b2, b3, a4, a5, a6), b0, b1, b2, b3, b4, b5, b6)) ((b0, b1, b2, b3, a4, a5, a6), b0, b1, b2, b3, b4, b5, b6) false a4 b4 l4' rfl ?_ ?_).trans ?_
        ·simp only [Int.lt_irrefl, if_false]
        ·intro i h h'
         have hi : (i : Int) < a4.length := by omega
         have h0 : (0 : Int) ≤ i := by omega
         simp (discharger := omega) only [hi, l4.symm, h0, decide_true, cndO_t, if_true, grdO_t, Int.toNat_natCast, atO_get, cndO_d, wI]
         rfl
        refine Eq.trans ?_ if_and
        by_cases e4 : a4 = b4
        ·rw [if_pos e4, if_pos e4]
         simp only
         refine (cmp_loop (fun i => ((i : Int), (b0, b1, b2, b3, a4, a5, a6), b0, b1, b2, b3, b4, b5, b6)) ((b0, b1, b2, b3, a4, a5, a6), b0, b1, b2, b3, b4, b5, b6) false a5 b5 l5' rfl ?_ ?_).trans ?_
         ·simp only [Int.lt_irrefl, if_false]
         ·intro i h h'
          have hi : (i : Int) < a5.length := by omega
          have h0 : (0 : Int) ≤ i := by omega
          simp (discharger := omega) only [hi, l5.symm, h0, decide_true, cndO_t, if_true, grdO_t, Int.toNat_natCast, atO_get, row3, cndO_d, wI]
          rfl
         refine Eq.trans ?_ if_and
         by_cases e5 : a5 = b5
         ·rw [if_pos e5, if_pos e5]
          simp only
          refine (cmp_loop (fun i => ((i : Int), (b0, b1, b2, b3, a4, a5, a6), b0, b1, b2, b3, b4, b5, b6)) () false a6 b6 l6' rfl ?_ ?_).trans if_tf
          ·simp only [Int.lt_irrefl, if_false]
          ·intro i h h'
           have hi : (i : Int) < a6.length := by omega
           have h0 : (0 : Int) ≤ i := by omega
           have hq := q153 a6[i] b6[i] (h5 _ (List.getElem_mem h))
           simp (discharger := omega) only [hi, l6.symm, h0, decide_true, cndO_t, if_true, grdO_t, Int.toNat_natCast, atO_get, hq, bindO_s, cndO_d, wI]
           rfl
         ·rw [if_neg e5, if_neg e5]
        ·rw [if_neg e4, if_neg e4]
       ·have : a6 ≠ b6 := fun h => l6 (by rw [h])
        simp [*]
      ·have : a5 ≠ b5 := fun h => l5 (by rw [h])
       simp [*]
     ·have : a4 ≠ b4 := fun h => l4 (by rw [h])
      simp [*]
    ·simp [*]
   ·simp [*]
  ·simp [*]
 ·simp [*]
end Go.Proofs.YtdpapeledldifaaGreat
namespace Go.TM
open Go.AM
section
variable {α X Y R : Type}
theorem ask_loop {f : X → Option (X ⊕ (Y ⊕ R))} (mk : Nat → X) (fin : Y) (no : R) (l : List α) (p : α → Bool) {x0 : X} (hx : x0 = mk 0) {k : Y → Option R}
  (hend : f (mk l.length) = some (.inr (.inl fin)))
  (hstep : ∀ i (h : i < l.length), f (mk i) = if p l[i] = true then some (.inl (mk (i + 1))) else some (.inr (.inr no))) :
  bindE (whileO f x0) k = if l.all p = true then k fin else some no := by
 have key : ∀ (m i : Nat), i + m = l.length → whileO f (mk i) = some (if (l.drop i).all p = true then .inl fin else .inr no) := by
  intro m
  induction m with
  | zero =>
   intro i hi
   have : i = l.length := by omega
   subst this
   rw [whileO_eq, hend, List.drop_eq_nil_of_le (Nat.le_refl _)]
   rfl
  | succ m ih =>
   intro i hi
   have h : i < l.length := by omega
   rw [whileO_eq, hstep i h, drop_cons h, List.all_cons]
   cases hp : p l[i]
   ·simp
   ·simp only [if_true, Bool.true_and]
    exact ih (i + 1) (by omega)
 rw [hx, key l.length 0 (by omega), List.drop_zero]
 by_cases h : l.all p = true
 ·simp only [h, if_true, bindE_l]
 ·simp only [h, if_false, bindE_r, Bool.false_eq_true]
end
end Go.TM
namespace Go.Proofs.YtdpapeledldifaaGreat
open Go Go.AM Go.TM
def smF (f : Frm) : Bool := decide (f.2.1.length ≤ 8) && decide (f.2.2.length ≤ 8)
def smM (m : Mth) : Bool := decide (m.2.2.2.2.2.1.length ≤ 120) && (decide (m.2.2.2.2.2.2.1.length ≤ 3) && (decide (m.2.2.2.2.2.2.2.length ≤ 8) && m.2.2.2.2.2.2.2.all smF))
def sm (c : Cls) : Bool := decide (few c) && (c.1.all (fun x => decide (x.2.1.length ≤ 255)) && c.2.2.2.2.2.2.all smM)
theorem q66 (c : Cls) (h : bCls c) : F66 c = some (sm c) := by
 obtain ⟨c0, c1, c2, c3, c4, c5, c6⟩ := c
 obtain ⟨⟨a1, a2⟩, a3, a4, a5, a6⟩ := h
 simp only at a1 a2 a3 a4 a5 a6
 simp only [F66, cndO_d, bindE_if, bindE_r, bindE_l]
 by_cases f1 : (60 : Int) < c0.length
 ·have : ¬ few (c0, c1, c2, c3, c4, c5, c6) := fun h => by have := h.1; simp only at this; omega
  simp [f1, sm, this]
 by_cases f2 : (3 : Int) < c4.length
 ·have : ¬ few (c0, c1, c2, c3, c4, c5, c6) := fun h => by have := h.2.1; simp only at this; omega
  simp [f1, f2, sm, this]
 by_cases f3 : (5 : Int) < c5.length
 ·have : ¬ few (c0, c1, c2, c3, c4, c5, c6) := fun h => by have := h.2.2.1; simp only at this; omega
  simp [f1, f2, f3, sm, this]
 by_cases f4 : (6 : Int) < c6.length
 ·have : ¬ few (c0, c1, c2, c3, c4, c5, c6) := fun h => by have := h.2.2.2; simp only at this; omega
  simp [f1, f2, f3, f4, sm, this]
 have hf : few (c0, c1, c2, c3, c4, c5, c6) := ⟨by simp only; omega, by simp only; omega, by simp only; omega, by simp only; omega⟩
 simp only [f1, f2, f3, f4, if_false, sm, hf, decide_true, Bool.true_and]
 refine (ask_loop (fun i => (c0, (c0.length : Int), (i : Int), c0, c1, c2, c3, c4, c5, c6)) (c0, c1, c2, c3, c4, c5, c6) false c0 (fun x => decide (x.2.1.length ≤ 255)) rfl ?_ ?_).trans ?_
 ·simp only [Int.lt_irrefl, if_false]
 ·intro i h
  have hi : (i : Int) < c0.length := by omega
  have h0 : (0 : Int) ≤ i := by omega
  simp (discharger := omega) only [hi, h0, decide_true, if_true, grdO_t, Int.toNat_natCast, atO_get, cndO_d, wI, decide_eq_true_eq]
  by_cases hx : (255 : Int) < c0[i].2.1.length
  ·rw [if_pos hx, if_neg (by omega)]
  ·rw [if_neg hx, if_pos (by omega)]; rfl
 by_cases hp : (c0.all fun x => decide (x.2.1.length ≤ 255)) = true
 ·rw [if_pos hp, hp]
  simp only [Bool.true_and]
  refine (ask_loop (fun i => (c6, (c6.length : Int), (i : Int))) () false c6 smM rfl ?_ ?_).trans ?_
  ·simp only [Int.lt_irrefl, if_false]
  ·intro i h
   have hi : (i : Int) < c6.length := by omega
   have h0 : (0 : Int) ≤ i := by omega
   have hb := a6 _ (List.getElem_mem h)
   simp (discharger := omega) only [hi, h0, decide_true, if_true, grdO_t, Int.toNat_natCast, atO_get, cndO_d, wI, bindE_if, bindE_r, bindE_l]
   generalize c6[i] = m at hb
   obtain ⟨m0, m1, m2, m3, m4, m5, m6, m7⟩ := m
   obtain ⟨b1, b2, b3, b4⟩ := hb
   simp only at b1 b2 b3 b4 ⊢
   by_cases g1 : (120 : Int) < m5.length
   ·have : ¬ m5.length ≤ 120 := by omega
    simp [g1, smM, this]
   by_cases g2 : (3 : Int) < m6.length
   ·have : ¬ m6.length ≤ 3 := by omega
    simp [g1, g2, smM, this]
   by_cases g3 : (8 : Int) < m7.length
   ·have : ¬ m7.length ≤ 8 := by omega
    simp [g1, g2, g3, smM, this]
   simp only [g1, g2, g3, if_false, smM, show m5.length ≤ 120 by omega, show m6.length ≤ 3 by omega, show m7.length ≤ 8 by omega, decide_true, Bool.true_and]
   refine (congrArg (bindE · _) (ask_loop (fun j => (c6, (c6.length : Int), (i : Int), m7, (m7.length : Int), (j : Int))) (c6, (c6.length : Int), (i : Int)) (.inr (.inr (.inr false))) m7 smF rfl ?_ ?_)).trans ?_
   ·simp only [Int.lt_irrefl, if_false]
   ·intro j h
    have hj : (j : Int) < m7.length := by omega
    have h0 : (0 : Int) ≤ j := by omega
    simp (discharger := omega) only [hj, h0, decide_true, if_true, grdO_t, Int.toNat_natCast, atO_get, bindE_if, bindE_r, bindE_l, wI]
    generalize m7[j] = fr
    by_cases u1 : (8 : Int) < fr.2.1.length
    ·have : ¬ fr.2.1.length ≤ 8 := by omega
     simp [u1, smF, this]
    by_cases u2 : (8 : Int) < fr.2.2.length
    ·have : ¬ fr.2.2.length ≤ 8 := by omega
     simp [u1, u2, smF, this]
    simp only [u1, u2, if_false, smF, show fr.2.1.length ≤ 8 by omega, show fr.2.2.length ≤ 8 by omega, decide_true, Bool.true_and, if_true]
    rfl
   ·by_cases hq : m7.all smF = true
    ·simp (discharger := omega) only [hq, if_true, bindE_l, wI]; rfl
    ·simp only [hq, if_false, bindE_r, Bool.false_eq_true]
  ·by_cases hq : c6.all smM = true <;> simp [hq]
 ·rw [if_neg hp]
  simp only [Bool.not_eq_true] at hp
  rw [hp]; rfl
theorem sm_few {c : Cls} (h : sm c = true) : few c := by
 simp only [sm, Bool.and_eq_true, decide_eq_true_eq] at h; exact h.1
theorem sm_fit {c : Cls} (h : fCls c) : sm c = true := by
 obtain ⟨h0, h1, _, _, _, _, _, h7⟩ := h
 simp only [sm, Bool.and_eq_true, decide_eq_true_eq, List.all_eq_true]
 refine ⟨h0, fun x hx => (h1 x hx).2.1, fun m hm => ?_⟩
 obtain ⟨_, _, _, _, _, g1, ⟨g2, _⟩, g3, g4⟩ := h7 m hm
 simp only [smM, smF, Bool.and_eq_true, decide_eq_true_eq, List.all_eq_true]
 exact ⟨g1, g2, g3, fun f hf => ⟨(g4 f hf).2.1.1, (g4 f hf).2.2.1⟩⟩
noncomputable def put (c : Cls) : List UInt8 := by
 classical
 exact if fCls c ∧ (pCls tI abI c).length ≤ 900 ∧ gCls (pCls tI abI c) = some (c, []) then pCls tI abI c else []
theorem put_yes {c : Cls} (h : fCls c ∧ (pCls tI abI c).length ≤ 900 ∧ gCls (pCls tI abI c) = some (c, [])) : put c = pCls tI abI c := by
 unfold put; rw [if_pos h]
theorem put_no {c : Cls} (h : ¬ (fCls c ∧ (pCls tI abI c).length ≤ 900 ∧ gCls (pCls tI abI c) = some (c, []))) : put c = [] := by
 unfold put; rw [if_neg h]
theorem put20 (c : Cls) (h : bCls c) : F20 c = some (put c) := by
 obtain ⟨c0, c1, c2, c3, c4, c5, c6⟩ := c
 simp only [F20, q66 _ h, bindO_s, cndO_n]
 cases hs : sm (c0, c1, c2, c3, c4, c5, c6) with
 | false =>
  rw [cndO_f, put_no]
  intro hh
  rw [sm_fit hh.1] at hs
  cases hs
 | true =>
  rw [cndO_t, p67 _ h (sm_few hs)]
  simp only [bindO_s]
  by_cases hl : (pCls tI abI (c0, c1, c2, c3, c4, c5, c6)).length ≤ 900
  ·have hg := i17 _ hl
   unfold isGot at hg
   rw [hg]
   cases hc : gCls (pCls tI abI (c0, c1, c2, c3, c4, c5, c6)) with
   | none =>
    simp only [bindO_s, cndO_f]
    rw [put_no]
    rintro ⟨_, _, h3⟩
    rw [hc] at h3; cases h3
   | some p =>
    obtain ⟨d, r⟩ := p
    cases r with
    | cons x r =>
     simp only [bindO_s, cndO_f]
     rw [put_no]
     rintro ⟨_, _, h3⟩
     rw [hc] at h3; cases h3
    | nil =>
     obtain ⟨d0, d1, d2, d3, d4, d5, d6⟩ := d
     simp only [bindO_s, cndO_t]
     rw [q68 _ _ h, bindO_s, cndO_d]
     by_cases he : (c0, c1, c2, c3, c4, c5, c6) = (d0, d1, d2, d3, d4, d5, d6)
     ·rw [if_pos he, put_yes]
      refine ⟨?_, hl, ?_⟩
      ·rw [he]; exact fit_cls _ _ _ hc
      ·rw [hc, he]
     ·rw [if_neg he, put_no]
      rintro ⟨_, _, h3⟩
      rw [hc] at h3
      simp only [Option.some.injEq, Prod.mk.injEq] at h3
      exact he (by simp only [Prod.mk.injEq]; obtain ⟨⟨k0, k1, k2, k3, k4, k5, k6⟩, _⟩ := h3; exact ⟨k0.symm, k1.symm, k2.symm, k3.symm, k4.symm, k5.symm, k6.symm⟩)
  ·have hn : (900 : Int) < ((pCls tI abI (c0, c1, c2, c3, c4, c5, c6)).length : Int) := by omega
   simp only [F17, hn, decide_true, cndO_t, bindO_s, cndO_f]
   rw [put_no]
   rintro ⟨_, h2, _⟩
   exact hl h2
theorem few69 (c : Cls) : F69 c = some (decide (few c)) := by
 obtain ⟨c0, c1, c2, c3, c4, c5, c6⟩ := c
 have hf : few (c0, c1, c2, c3, c4, c5, c6) ↔ (c0.length ≤ 60 ∧ c4.length ≤ 3 ∧ c5.length ≤ 5 ∧ c6.length ≤ 6) := Iff.rfl
 simp only [F69, cndO_d]
 repeat' split
 all_goals
  rw [Option.some.injEq, Bool.eq_iff_iff, decide_eq_true_iff (p := few _), hf]
  first
   | (rw [decide_eq_true_iff]; omega)
   | (constructor <;> intro hh <;> first | omega | cases hh)
end Go.Proofs.YtdpapeledldifaaGreat
end
section
namespace Go.Proofs.YtdpapeledldifaaGreat
open Go Go.AM Go.TM
theorem fit_few {c : Cls} (h : fCls c) : few c := h.1
theorem fit_b {c : Cls} (h : fCls c) : bCls c := by
 obtain ⟨⟨f1, f2, f3, f4⟩, h1, _, _, _, _, _, h7⟩ := h
 refine ⟨⟨by omega, fun x hx => ?_⟩, by omega, by omega, by omega, fun m hm => ?_⟩
 ·have := (h1 x hx).2.1
  simp only [bCst]; omega
 ·obtain ⟨_, _, _, _, _, g1, ⟨g2, _⟩, g3, g4⟩ := h7 m hm
  refine ⟨by omega, by omega, by omega, fun f hf => ?_⟩
  obtain ⟨_, ⟨k1, _⟩, ⟨k2, _⟩⟩ := g4 f hf
  simp only [bFrm, bKnds]; omega
theorem get63 (l : List UInt8) (hl : l.length ≤ 900) : ∃ b c, F63 l = some (b, c) ∧ (b = true → gCls l = some (c, []) ∧ pCls tS abS c = l) ∧ (∀ c', gCls l = some (c', []) → pCls tS abS c' = l → b = true) := by
 have hn : ¬ ((900 : Int) < (l.length : Int)) := by omega
 simp only [F63, hn, decide_false, cndO_f]
 obtain ⟨v, ⟨s1, s2, s3⟩, e1, ⟨r1, r2, r3, _, r5, r6⟩, e3⟩ := s142 (s0 := l) (l, 0, false) (some l) ⟨rfl, by simp, by simp, hl, (fun h => by cases h), fun l' h => by
  simp only [Option.some.injEq] at h; exact ⟨rfl, by rw [← h]; rfl⟩⟩
 rw [e1]
 obtain ⟨y, y1, y2, y3, y4, y5, x⟩ := v
 simp only [bindO_s]
 simp only at r1 r2 r3 r5 r6
 subst r1
 cases hb : gCls s1 with
 | none =>
  have : s3 = true := r5 (by rw [Option.bind_some, hb]; rfl)
  subst this
  exact ⟨_, _, rfl, (fun h => by cases h), fun c' h => by cases h⟩
 | some p =>
  obtain ⟨c, r⟩ := p
  obtain ⟨h3, h4⟩ := r6 r (by rw [Option.bind_some, hb]; rfl)
  have hv := e3 c r (by rw [Option.bind_some, hb])
  subst h3
  simp only [cndO_f, cndO_n, cndO_d]
  by_cases hs : s2 = (s1.length : Int)
  ·have hr : r = [] := by rw [h4]; exact List.drop_eq_nil_of_le (by omega)
   subst hr
   rw [if_pos hs]
   have hf : fCls (y, y1, y2, y3, y4, y5, x) := by rw [hv]; exact fit_cls _ _ _ hb
   rw [p55 _ (fit_b hf) (fit_few hf)]
   simp only [bindO_s]
   by_cases hw : pCls tS abS (y, y1, y2, y3, y4, y5, x) = s1
   ·rw [if_pos hw]
    exact ⟨_, _, rfl, (fun _ => ⟨by rw [hv], hw⟩), fun _ _ _ => rfl⟩
   ·rw [if_neg hw]
    refine ⟨_, _, rfl, (fun h => by cases h), fun c' h1 h2 => ?_⟩
    simp only [Option.some.injEq, Prod.mk.injEq, and_true] at h1
    rw [hv, h1] at hw
    exact absurd h2 hw
  ·rw [if_neg hs]
   refine ⟨_, _, rfl, (fun h => by cases h), fun c' h1 h2 => ?_⟩
   simp only [Option.some.injEq, Prod.mk.injEq] at h1
   have hr : r = [] := h1.2
   rw [hr] at h4
   have := congrArg List.length h4
   simp only [List.length_nil, List.length_drop] at this
   omega
theorem put22 (c : Cls) (h : bCls c) : F22 c = some (put c) := by
 obtain ⟨c0, c1, c2, c3, c4, c5, c6⟩ := c
 simp only [F22, few69, bindO_s, cndO_n, cndO_d]
 by_cases hf : few (c0, c1, c2, c3, c4, c5, c6)
 ·rw [if_pos hf, p55 _ h hf]
  simp only [bindO_s]
  by_cases hl : (pCls tS abS (c0, c1, c2, c3, c4, c5, c6)).length ≤ 900
  ·obtain ⟨b, d, e, h1, h2⟩ := get63 _ hl
   rw [e]
   obtain ⟨d0, d1, d2, d3, d4, d5, d6⟩ := d
   simp only [bindO_s]
   cases b with
   | false =>
    rw [cndO_f, put_no]
    rintro ⟨q1, q2, q3⟩
    rw [← cls_eq _ q1] at q3
    cases h2 _ q3 rfl
   | true =>
    obtain ⟨g1, g2⟩ := h1 rfl
    have hd := fit_cls _ _ _ g1
    rw [cndO_t, q70 _ _ (fit_b hd), bindO_s, cndO_d]
    by_cases he : (d0, d1, d2, d3, d4, d5, d6) = (c0, c1, c2, c3, c4, c5, c6)
    ·rw [if_pos he]
     rw [he] at hd g1
     have := cls_eq _ hd
     rw [put_yes, this]
     rw [this] at g1 hl
     exact ⟨hd, hl, g1⟩
    ·rw [if_neg he, put_no]
     rintro ⟨q1, q2, q3⟩
     rw [← cls_eq _ q1] at q3
     rw [q3] at g1
     simp only [Option.some.injEq, Prod.mk.injEq] at g1 he
     obtain ⟨⟨k0, k1, k2, k3, k4, k5, k6⟩, _⟩ := g1
     exact he ⟨k0.symm, k1.symm, k2.symm, k3.symm, k4.symm, k5.symm, k6.symm⟩
  ·have hn : (900 : Int) < ((pCls tS abS (c0, c1, c2, c3, c4, c5, c6)).length : Int) := by omega
   simp only [F63, hn, decide_true, cndO_t, bindO_s, cndO_f]
   rw [put_no]
   rintro ⟨q1, q2, q3⟩
   rw [← cls_eq _ q1] at q2
   exact hl q2
 ·rw [if_neg hf, put_no]
  exact fun hh => hf hh.1.1
end Go.Proofs.YtdpapeledldifaaGreat
end
section
namespace Go.Stow
def cut (c : UInt8) : List UInt8 → Option (List UInt8 × List UInt8)
 | [] => none
 | x :: l => if x = c then some ([], l) else (cut c l).map fun p => (x :: p.1, p.2)
theorem cut_some {c : UInt8} : ∀ {l a b : List UInt8}, cut c l = some (a, b) → l = a ++ c :: b ∧ c ∉ a
 | [], a, b, h => by cases h
 | x :: l, a, b, h => by
  unfold cut at h
  by_cases hx : x = c
  ·rw [if_pos hx] at h
   simp only [Option.some.injEq, Prod.mk.injEq] at h
   obtain ⟨rfl, rfl⟩ := h
   exact ⟨by rw [hx]; rfl, by simp⟩
  ·rw [if_neg hx] at h
   cases hc : cut c l with
   | none => rw [hc] at h; cases h
   | some p =>
    obtain ⟨a', b'⟩ := p
    rw [hc] at h
    simp only [Option.map_some, Option.some.injEq, Prod.mk.injEq] at h
    obtain ⟨rfl, rfl⟩ := h
    obtain ⟨h1, h2⟩ := cut_some hc
    exact ⟨by rw [h1]; rfl, by simp only [List.mem_cons, not_or]; exact ⟨fun h => hx h.symm, h2⟩⟩
theorem cut_none {c : UInt8} : ∀ {l : List UInt8}, cut c l = none ↔ c ∉ l
 | [] => by simp [cut]
 | x :: l => by
  unfold cut
  by_cases hx : x = c
  ·rw [if_pos hx]; simp [hx]
  ·rw [if_neg hx]
   simp only [Option.map_eq_none_iff, cut_none, List.mem_cons, not_or]
   exact ⟨fun h => ⟨fun h => hx h.symm, h⟩, fun h => h.2⟩
theorem cut_at {c : UInt8} : ∀ {a b : List UInt8}, c ∉ a → cut c (a ++ c :: b) = some (a, b)
 | [], b, _ => by simp [cut]
 | x :: a, b, h => by
  simp only [List.mem_cons, not_or] at h
  rw [List.cons_append]
  unfold cut
  rw [if_neg fun e => h.1 e.symm, cut_at h.2]
  rfl
def let1 (b : UInt8) : Prop := (97 ≤ b.toNat ∧ b.toNat ≤ 122) ∨ (65 ≤ b.toNat ∧ b.toNat ≤ 90)
def dig1 (b : UInt8) : Prop := 48 ≤ b.toNat ∧ b.toNat ≤ 57
def Nm (s : List UInt8) : Prop := (1 ≤ s.length ∧ s.length ≤ 8) ∧ ∀ i (h : i < s.length), let1 s[i] ∨ (i ≠ 0 ∧ dig1 s[i])
noncomputable instance (s : List UInt8) : Decidable (Nm s) := Classical.propDecidable _
theorem Nm.mem {s : List UInt8} (h : Nm s) {b : UInt8} (hb : b ∈ s) : let1 b ∨ dig1 b := by
 obtain ⟨i, hi, rfl⟩ := List.mem_iff_getElem.1 hb
 rcases h.2 i hi with h | h
 ·exact .inl h
 ·exact .inr h.2
theorem Nm.no {s : List UInt8} (h : Nm s) (b : UInt8) (hb : ¬ (let1 b ∨ dig1 b)) : b ∉ s := fun hm => hb (h.mem hm)
theorem no41 : ¬ (let1 41 ∨ dig1 41) := by simp [let1, dig1]
theorem no59 : ¬ (let1 59 ∨ dig1 59) := by simp [let1, dig1]
theorem Nm.ne {s : List UInt8} (h : Nm s) : s ≠ [] := by rintro rfl; exact absurd h.1.1 (by simp)
theorem not_nm_nil : ¬ Nm [] := fun h => h.ne rfl
def Tok (t : List UInt8) : Prop := t = [73] ∨ ∃ n, Nm n ∧ t = 76 :: (n ++ [59])
noncomputable instance (s : List UInt8) : Decidable (Tok s) := Classical.propDecidable _
theorem Tok.no41 {t : List UInt8} (h : Tok t) : (41 : UInt8) ∉ t := by
 rcases h with rfl | ⟨n, hn, rfl⟩
 ·simp
 ·have := hn.no 41 Stow.no41
  simp [this]
theorem not_tok_nil : ¬ Tok [] := by
 rintro (h | ⟨n, _, h⟩) <;> cases h
noncomputable def one : List UInt8 → Option (List UInt8 × List UInt8)
 | [] => none
 | x :: r => if x = 73 then some ([73], r) else if x = 76 then (cut 59 r).bind fun p => if Nm p.1 then some (76 :: (p.1 ++ [59]), p.2) else none else none
theorem one_cons (x : UInt8) (r : List UInt8) : one (x :: r) = if x = 73 then some ([73], r) else if x = 76 then (cut 59 r).bind fun p => if Nm p.1 then some (76 :: (p.1 ++ [59]), p.2) else none else none := rfl
theorem one_some {l t r : List UInt8} (h : one l = some (t, r)) : l = t ++ r ∧ Tok t := by
 cases l with
 | nil => cases h
 | cons x l =>
  rw [one_cons] at h
  by_cases h1 : x = 73
  ·rw [if_pos h1] at h
   simp only [Option.some.injEq, Prod.mk.injEq] at h
   obtain ⟨rfl, rfl⟩ := h
   exact ⟨by rw [h1]; rfl, .inl rfl⟩
  ·rw [if_neg h1] at h
   by_cases h2 : x = 76
   ·rw [if_pos h2] at h
    cases hc : cut 59 l with
    | none => rw [hc] at h; cases h
    | some p =>
     obtain ⟨n, b⟩ := p
     rw [hc, Option.bind_some] at h
     by_cases hn : Nm n
     ·rw [if_pos hn] at h
      simp only [Option.some.injEq, Prod.mk.injEq] at h
      obtain ⟨rfl, rfl⟩ := h
      obtain ⟨e, _⟩ := cut_some hc
      exact ⟨by rw [h2, e]; simp, .inr ⟨n, hn, rfl⟩⟩
     ·rw [if_neg hn] at h; cases h
   ·rw [if_neg h2] at h; cases h
theorem one_tok {t : List UInt8} (h : Tok t) (r : List UInt8) : one (t ++ r) = some (t, r) := by
 rcases h with rfl | ⟨n, hn, rfl⟩
 ·rfl
 ·rw [List.cons_append, one_cons, if_neg (by decide), if_pos rfl]
  have : (n ++ [59]) ++ r = n ++ 59 :: r := by simp
  rw [this, cut_at (hn.no 59 no59), Option.bind_some, if_pos hn]
theorem one_none {l : List UInt8} : one l = none ↔ ∀ t r, l = t ++ r → ¬ Tok t := by
 constructor
 ·intro h t r e ht
  rw [e, one_tok ht] at h
  cases h
 ·intro h
  cases ho : one l with
  | none => rfl
  | some p =>
   obtain ⟨t, r⟩ := p
   obtain ⟨h1, h2⟩ := one_some ho
   exact absurd h2 (h t r h1)
theorem tok_one {s : List UInt8} : Tok s ↔ one s = some (s, []) := by
 constructor
 ·intro h
  have := one_tok h []
  rwa [List.append_nil] at this
 ·intro h
  exact (one_some h).2
noncomputable def more : Nat → List UInt8 → Option (List (List UInt8) × List UInt8)
 | _, [] => none
 | 0, x :: l => if x = 41 then some ([], l) else none
 | k + 1, x :: l => if x = 41 then some ([], l) else (one (x :: l)).bind fun p => (more k p.2).map fun q => (p.1 :: q.1, q.2)
noncomputable def mr : Nat → List UInt8 → Option (List (List UInt8))
 | _, [] => some []
 | 0, _ :: _ => none
 | k + 1, x :: l => (one (x :: l)).bind fun p => (mr k p.2).map fun q => p.1 :: q
theorem more_succ (k : Nat) (x : UInt8) (l : List UInt8) : more (k + 1) (x :: l) = if x = 41 then some ([], l) else (one (x :: l)).bind fun p => (more k p.2).map fun q => (p.1 :: q.1, q.2) := rfl
theorem mr_succ (k : Nat) (x : UInt8) (l : List UInt8) : mr (k + 1) (x :: l) = (one (x :: l)).bind fun p => (mr k p.2).map fun q => p.1 :: q := rfl
theorem one_app {l b : List UInt8} (h : (41 : UInt8) ∉ l) (hl : l ≠ []) : one (l ++ 41 :: b) = (one l).map fun p => (p.1, p.2 ++ 41 :: b) := by
 cases ho : one l with
 | some p =>
  obtain ⟨t, r⟩ := p
  obtain ⟨h1, h2⟩ := one_some ho
  rw [h1, List.append_assoc, one_tok h2]
  rfl
 | none =>
  rw [Option.map_none, one_none]
  intro t r e ht
  have h41 := ht.no41
  rw [one_none] at ho
  have hle : t.length ≤ l.length := by
   refine Nat.le_of_not_lt fun hlt => h41 ?_
   have e2 : (l ++ 41 :: b)[l.length]? = (t ++ r)[l.length]? := by rw [e]
   rw [List.getElem?_append_right (Nat.le_refl _), Nat.sub_self, List.getElem?_append_left hlt] at e2
   exact List.mem_of_getElem? e2.symm
  have e3 : l = t ++ l.drop t.length := by
   have e4 := congrArg (List.take t.length) e
   rw [List.take_append_of_le_length hle, List.take_append_of_le_length (Nat.le_refl _), List.take_length] at e4
   rw [← e4, List.length_take, Nat.min_eq_left hle, List.take_append_drop]
  exact ho t _ e3 ht
theorem more_cut : ∀ (k : Nat) (l b : List UInt8), (41 : UInt8) ∉ l → more k (l ++ 41 :: b) = (mr k l).map fun q => (q, b)
 | 0, [], b, _ => by simp [more, mr]
 | _ + 1, [], b, _ => by simp [more, mr]
 | 0, x :: l, b, h => by
  have : x ≠ 41 := fun e => h (by simp [e])
  simp [more, mr, this]
 | k + 1, x :: l, b, h => by
  have hx : x ≠ 41 := fun e => h (by simp [e])
  have := one_app (b := b) h (by simp)
  rw [List.cons_append] at this ⊢
  rw [more_succ, mr_succ, if_neg hx, this]
  cases ho : one (x :: l) with
  | none => rfl
  | some p =>
   obtain ⟨t, r⟩ := p
   obtain ⟨h1, h2⟩ := one_some ho
   have hr : (41 : UInt8) ∉ r := fun hm => h (by rw [h1]; simp [hm])
   show (more k (r ++ 41 :: b)).map _ = ((mr k r).map _).map _
   rw [more_cut k r b hr]
   cases mr k r <;> rfl
theorem more_none : ∀ (k : Nat) (l : List UInt8), (41 : UInt8) ∉ l → more k l = none
 | 0, [], _ => by simp [more]
 | _ + 1, [], _ => by simp [more]
 | 0, x :: l, h => by
  have : x ≠ 41 := fun e => h (by simp [e])
  simp [more, this]
 | k + 1, x :: l, h => by
  have hx : x ≠ 41 := fun e => h (by simp [e])
  rw [more_succ, if_neg hx]
  cases ho : one (x :: l) with
  | none => rfl
  | some p =>
   obtain ⟨t, r⟩ := p
   obtain ⟨h1, h2⟩ := one_some ho
   have hr : (41 : UInt8) ∉ r := fun hm => h (by rw [h1]; simp [hm])
   simp only [Option.bind_some, more_none k r hr, Option.map_none]
noncomputable def dsc (s : List UInt8) : List (List UInt8) × List UInt8 × Bool :=
 match s with
 | [] => ([], [], false)
 | x :: l => if x = 40 then
   match more 4 l with
   | none => ([], [], false)
   | some (ts, back) => if back = [86] ∨ Tok back then (ts, back, true) else ([], [], false)
  else ([], [], false)
def Dsc (s : List UInt8) : Prop := (dsc s).2.2 = true
noncomputable instance (s : List UInt8) : Decidable (Dsc s) := Classical.propDecidable _
theorem not_dsc_nil : ¬ Dsc [] := by simp [Dsc, dsc]
end Go.Stow
end
section
namespace Go.Stow
abbrev Ent := Int × List UInt8 × Int × Int
def entAt (p : List Ent) (i : Int) : Ent := if 1 ≤ i ∧ i ≤ p.length then p[(i - 1).toNat]?.getD (0, [], 0, 0) else (0, [], 0, 0)
def TxtAt (p : List Ent) (i : Int) (Q : List UInt8 → Prop) : Prop := (entAt p i).1 = 1 ∧ Q (entAt p i).2.1
noncomputable instance (p : List Ent) (i : Int) (Q : List UInt8 → Prop) : Decidable (TxtAt p i Q) := Classical.propDecidable _
def ClsAt (p : List Ent) (i : Int) : Prop := (entAt p i).1 = 2 ∧ TxtAt p (entAt p i).2.2.1 Nm
noncomputable instance (p : List Ent) (i : Int) : Decidable (ClsAt p i) := Classical.propDecidable _
noncomputable def clsN (p : List Ent) (i : Int) : List UInt8 := if ClsAt p i then (entAt p (entAt p i).2.2.1).2.1 else []
def txt (p : List Ent) (i : Int) : List UInt8 := if (entAt p i).1 = 1 then (entAt p i).2.1 else []
theorem clsN_ne {p : List Ent} {i : Int} : clsN p i ≠ [] ↔ ClsAt p i := by
 unfold clsN
 constructor
 ·intro h
  by_cases hc : ClsAt p i
  ·exact hc
  ·rw [if_neg hc] at h; exact absurd rfl h
 ·intro h
  rw [if_pos h]
  exact h.2.2.ne
theorem txt_at {p : List Ent} {i : Int} {Q : List UInt8 → Prop} (h0 : ¬ Q []) : Q (txt p i) ↔ TxtAt p i Q := by
 unfold txt TxtAt
 by_cases h : (entAt p i).1 = 1
 ·rw [if_pos h]; simp [h]
 ·rw [if_neg h]; simp [h, h0]
def Typed (s : List UInt8) : Prop := Tok s ∨ Dsc s
theorem not_typed_nil : ¬ Typed [] := by
 rintro (h | h)
 ·exact not_tok_nil h
 ·exact not_dsc_nil h
def EntOk (p : List Ent) (x : Ent) : Prop :=
 if x.1 = 1 then x.2.2.1 = 0 ∧ x.2.2.2 = 0 ∧ (Nm x.2.1 ∨ Typed x.2.1)
 else if x.1 = 2 then x.2.1 = [] ∧ x.2.2.2 = 0 ∧ TxtAt p x.2.2.1 Nm
 else if x.1 = 3 then x.2.1 = [] ∧ TxtAt p x.2.2.1 Nm ∧ TxtAt p x.2.2.2 Typed
 else if x.1 = 4 then x.2.1 = [] ∧ ClsAt p x.2.2.1 ∧ (entAt p x.2.2.2).1 = 3 ∧ TxtAt p (entAt p x.2.2.2).2.2.2 Tok
 else if x.1 = 5 ∨ x.1 = 6 then x.2.1 = [] ∧ ClsAt p x.2.2.1 ∧ (entAt p x.2.2.2).1 = 3 ∧ TxtAt p (entAt p x.2.2.2).2.2.2 Dsc
 else False
noncomputable instance (p : List Ent) (x : Ent) : Decidable (EntOk p x) := Classical.propDecidable _
theorem entAt_get {p : List Ent} {i : Nat} (h : i < p.length) : entAt p ((i : Int) + 1) = p[i] := by
 unfold entAt
 rw [if_pos ⟨by omega, by omega⟩, show ((i : Int) + 1 - 1).toNat = i by omega, List.getElem?_eq_getElem h]
 rfl
theorem entAt_mem {p : List Ent} {i : Int} (h : (entAt p i).1 ≠ 0) : ∃ k, ∃ _ : k < p.length, entAt p i = p[k] := by
 unfold entAt at h ⊢
 by_cases hi : 1 ≤ i ∧ i ≤ p.length
 ·rw [if_pos hi] at h ⊢
  exact ⟨(i - 1).toNat, by omega, by rw [List.getElem?_eq_getElem (by omega)]; rfl⟩
 ·rw [if_neg hi] at h; exact absurd rfl h
def PoolOk (p : List Ent) : Prop := ∀ i (h : i < p.length), EntOk p p[i]
noncomputable def poolC (p : List Ent) : Nat → Nat → Int
 | 0, _ => 0
 | m + 1, i => if h : i < p.length then if EntOk p p[i] then poolC p m (i + 1) else (i : Int) + 1 else 0
theorem poolC_ok {p : List Ent} : ∀ (m i : Nat), i + m = p.length → (poolC p m i = 0 ↔ ∀ j, i ≤ j → ∀ h : j < p.length, EntOk p p[j])
 | 0, i, hi => by
  constructor
  ·intro _ j h1 h2; omega
  ·intro _; rfl
 | m + 1, i, hi => by
  have h : i < p.length := by omega
  unfold poolC
  rw [dif_pos h]
  by_cases he : EntOk p p[i]
  ·rw [if_pos he, poolC_ok m (i + 1) (by omega)]
   constructor
   ·intro hh j h1 h2
    by_cases hj : j = i
    ·subst hj; exact he
    ·exact hh j (by omega) h2
   ·intro hh j h1 h2; exact hh j (by omega) h2
  ·rw [if_neg he]
   constructor
   ·intro hh; omega
   ·intro hh; exact absurd (hh i (Nat.le_refl _) h) he
theorem pool_ok {p : List Ent} : poolC p p.length 0 = 0 ↔ PoolOk p := by
 rw [poolC_ok p.length 0 (by omega)]
 exact ⟨fun h j hj => h j (by omega) hj, fun h j _ hj => h j hj⟩
theorem PoolOk.cls {p : List Ent} (h : PoolOk p) {i : Int} : ClsAt p i ↔ (entAt p i).1 = 2 := by
 constructor
 ·exact fun h => h.1
 ·intro h2
  obtain ⟨k, hk, e⟩ := entAt_mem (p := p) (i := i) (by omega)
  have := h k hk
  rw [← e] at this
  unfold EntOk at this
  rw [if_neg (by omega), if_pos h2] at this
  exact ⟨h2, this.2.2⟩
def nameI (p : List Ent) (i : Int) : List UInt8 := if (entAt p i).1 = 2 then (entAt p (entAt p i).2.2.1).2.1 else (entAt p i).2.1
theorem nameI_cls {p : List Ent} {i : Int} (h : ClsAt p i) : nameI p i = clsN p i := by
 unfold nameI clsN
 rw [if_pos h.1, if_pos h]
theorem nameI_txt {p : List Ent} {i : Int} (h : (entAt p i).1 = 1) : nameI p i = txt p i := by
 unfold nameI txt
 rw [if_neg (by omega), if_pos h]
end Go.Stow
end
section
namespace Go.Stow
abbrev KndP := Int × Int
abbrev TrpP := Int × Int × Int × Int
abbrev FrmP := Int × List KndP × List KndP
abbrev FldP := Int × Int × Int
abbrev MthP := Int × Int × Int × Int × Int × List UInt8 × List TrpP × List FrmP
abbrev ClsP := List Ent × Int × Int × Int × List Int × List FldP × List MthP
def has (f k : Int) : Prop := f / k % 2 = 1
instance (f k : Int) : Decidable (has f k) := inferInstanceAs (Decidable (_ = _))
def HeadOk (c : ClsP) : Prop :=
 ClsAt c.1 c.2.2.1 ∧ ClsAt c.1 c.2.2.2.1 ∧ clsN c.1 c.2.2.2.1 ≠ clsN c.1 c.2.2.1 ∧ (0 ≤ c.2.1 ∧ c.2.1 ≤ 7) ∧
 (∀ i, i < c.2.2.2.2.1.length → ClsAt c.1 (c.2.2.2.2.1.getD i 0) ∧ ∀ k, k < i → clsN c.1 (c.2.2.2.2.1.getD k 0) ≠ clsN c.1 (c.2.2.2.2.1.getD i 0)) ∧
 ¬ (has c.2.1 2 ∧ has c.2.1 4) ∧ (has c.2.1 1 → has c.2.1 4 ∧ clsN c.1 c.2.2.2.1 = [79, 98, 106])
noncomputable instance (c : ClsP) : Decidable (HeadOk c) := Classical.propDecidable _
def FldOk (c : ClsP) (i : Nat) : Prop :=
 let f := c.2.2.2.2.2.1.getD i (0, 0, 0)
 TxtAt c.1 f.2.1 Nm ∧ TxtAt c.1 f.2.2 Tok ∧ (0 ≤ f.1 ∧ f.1 ≤ 3) ∧ (has c.2.1 1 → f.1 = 1) ∧ ∀ k, k < i → txt c.1 (c.2.2.2.2.2.1.getD k (0, 0, 0)).2.1 ≠ txt c.1 f.2.1
def FldsOk (c : ClsP) : Prop := ∀ i, i < c.2.2.2.2.2.1.length → FldOk c i
noncomputable instance (c : ClsP) : Decidable (FldsOk c) := Classical.propDecidable _
def mth0 : MthP := (0, 0, 0, 0, 0, [], [], [])
def FlagsOk (c : ClsP) (m : MthP) : Prop :=
 (0 ≤ m.1 ∧ m.1 ≤ 15) ∧ (txt c.1 m.2.1 = [98, 101, 103, 105, 110] → m.1 = 1 ∧ txt c.1 m.2.2.1 = [40, 41, 86]) ∧
 (has m.1 8 → m.1 = 8 ∧ has c.2.1 4) ∧ (¬ has m.1 8 → has c.2.1 1 → m.1 = 1)
noncomputable instance (c : ClsP) (m : MthP) : Decidable (FlagsOk c m) := Classical.propDecidable _
def MthOk (c : ClsP) (i : Nat) : Prop :=
 let m := c.2.2.2.2.2.2.getD i mth0
 TxtAt c.1 m.2.1 Nm ∧ TxtAt c.1 m.2.2.1 Dsc ∧ FlagsOk c m ∧
 ∀ k, k < i → ¬ (txt c.1 (c.2.2.2.2.2.2.getD k mth0).2.1 = txt c.1 m.2.1 ∧ txt c.1 (c.2.2.2.2.2.2.getD k mth0).2.2.1 = txt c.1 m.2.2.1)
def MthsOk (c : ClsP) : Prop := ∀ i, i < c.2.2.2.2.2.2.length → MthOk c i
noncomputable instance (c : ClsP) : Decidable (MthsOk c) := Classical.propDecidable _
def argN (op : Int) : Int := if op = 1 then 2 else if 3 ≤ op ∧ op ≤ 6 then 1 else if 14 ≤ op ∧ op ≤ 29 then 2 else if 0 ≤ op ∧ op ≤ 34 then 0 else -1
def numB (op : Int) : List UInt8 → Int
 | [] => 0
 | [a] => a.toNat
 | a :: b :: _ => if op = 1 ∧ 32768 ≤ (a.toNat : Int) * 256 + b.toNat then (a.toNat : Int) * 256 + b.toNat - 65536 else (a.toNat : Int) * 256 + b.toNat
abbrev InsP := Int × Int × Int
def opsN : Nat → Int → List UInt8 → Option (List InsP)
 | _, _, [] => some []
 | 0, _, _ :: _ => none
 | k + 1, a, x :: l => if argN x.toNat < 0 ∨ (l.length : Int) < argN x.toNat then none
  else (opsN k (a + 1 + argN x.toNat) (l.drop (argN x.toNat).toNat)).map fun r => (a, (x.toNat : Int), numB x.toNat (l.take (argN x.toNat).toNat)) :: r
def opsV (s : List UInt8) : List InsP × Bool := match opsN s.length 0 s with
 | some (x :: r) => (x :: r, true)
 | _ => ([], false)
def opI (l : List InsP) (a : Int) : Int := match l.findIdx? (fun x => decide (x.1 = a)) with
 | some j => j
 | none => -1
def want (op : Int) : Int := if op = 19 ∨ op = 28 ∨ op = 29 then 2 else if 20 ≤ op ∧ op ≤ 23 then 4 else if 24 ≤ op ∧ op ≤ 26 then 5 else if op = 27 then 6 else 0
def InsOk (p : List Ent) (locals : Int) (l : List InsP) (x : InsP) : Prop :=
 (3 ≤ x.2.1 ∧ x.2.1 ≤ 6 → x.2.2 < locals) ∧ (14 ≤ x.2.1 ∧ x.2.1 ≤ 18 → 0 ≤ opI l x.2.2) ∧ (want x.2.1 ≠ 0 → (entAt p x.2.2).1 = want x.2.1)
noncomputable instance (p : List Ent) (locals : Int) (l : List InsP) (x : InsP) : Decidable (InsOk p locals l x) := Classical.propDecidable _
def TrapOk (p : List Ent) (n : Int) (l : List InsP) (t : TrpP) : Prop :=
 t.1 < t.2.1 ∧ 0 ≤ opI l t.1 ∧ (t.2.1 = n ∨ 0 ≤ opI l t.2.1) ∧ 0 ≤ opI l t.2.2.1 ∧ (t.2.2.2 = 0 ∨ ClsAt p t.2.2.2)
noncomputable instance (p : List Ent) (n : Int) (l : List InsP) (t : TrpP) : Decidable (TrapOk p n l t) := Classical.propDecidable _
def KndOk (p : List Ent) (k : KndP) : Prop := (0 ≤ k.1 ∧ k.1 ≤ 3) ∧ (k.1 = 3 → ClsAt p k.2) ∧ (k.1 ≠ 3 → k.2 = 0)
noncomputable instance (p : List Ent) (k : KndP) : Decidable (KndOk p k) := Classical.propDecidable _
def KndsOk (p : List Ent) (l : List KndP) : Prop := ∀ k ∈ l, KndOk p k
noncomputable instance (p : List Ent) (l : List KndP) : Decidable (KndsOk p l) := Classical.propDecidable _
def FrmOk (p : List Ent) (m : MthP) (l : List InsP) (i : Nat) : Prop :=
 let f := m.2.2.2.2.2.2.2.getD i (0, [], [])
 0 ≤ opI l f.1 ∧ (0 < i → (m.2.2.2.2.2.2.2.getD (i - 1) (0, [], [])).1 < f.1) ∧ (f.2.1.length : Int) = m.2.2.2.2.1 ∧ (f.2.2.length : Int) ≤ m.2.2.2.1 ∧ KndsOk p f.2.1 ∧ KndsOk p f.2.2
def FrmsOk (p : List Ent) (m : MthP) (l : List InsP) : Prop := ∀ i, i < m.2.2.2.2.2.2.2.length → FrmOk p m l i
noncomputable instance (p : List Ent) (m : MthP) (l : List InsP) : Decidable (FrmsOk p m l) := Classical.propDecidable _
noncomputable def takes (p : List Ent) (m : MthP) : Int := if has m.1 1 then ((dsc (txt p m.2.2.1)).1.length : Int) else (dsc (txt p m.2.2.1)).1.length + 1
def BodyOk (p : List Ent) (m : MthP) : Prop :=
 (opsV m.2.2.2.2.2.1).2 = true ∧ m.2.2.2.1 ≤ 8 ∧ (takes p m ≤ m.2.2.2.2.1 ∧ m.2.2.2.2.1 ≤ 8) ∧
 (∀ x ∈ (opsV m.2.2.2.2.2.1).1, InsOk p m.2.2.2.2.1 (opsV m.2.2.2.2.2.1).1 x) ∧ (∀ t ∈ m.2.2.2.2.2.2.1, TrapOk p m.2.2.2.2.2.1.length (opsV m.2.2.2.2.2.1).1 t) ∧ FrmsOk p m (opsV m.2.2.2.2.2.1).1
noncomputable instance (p : List Ent) (m : MthP) : Decidable (BodyOk p m) := Classical.propDecidable _
def BodsOk (c : ClsP) : Prop := ∀ m ∈ c.2.2.2.2.2.2, ¬ has m.1 8 → BodyOk c.1 m
noncomputable instance (c : ClsP) : Decidable (BodsOk c) := Classical.propDecidable _
noncomputable def chkV (c : ClsP) : Int := if poolC c.1 c.1.length 0 ≠ 0 then 2 else if ¬ HeadOk c then 3 else if ¬ FldsOk c then 4 else if ¬ MthsOk c then 5 else if ¬ BodsOk c then 6 else 0
end Go.Stow
end
section
namespace Go.TM
open Go.AM
section
variable {α X Y R : Type}
theorem askI_loop {f : X → Option (X ⊕ (Y ⊕ R))} (mk : Nat → X) (fin : Y) (no : R) (n : Nat) (p : Nat → Prop) {x0 : X} (hx : x0 = mk 0) {k : Y → Option R} {r : Option R}
  (hend : f (mk n) = some (.inr (.inl fin)))
  (hy : ∀ i, i < n → p i → f (mk i) = some (.inl (mk (i + 1))))
  (hn : ∀ i, i < n → ¬ p i → f (mk i) = some (.inr (.inr no)))
  (hk : (∀ i, i < n → p i) → k fin = r) (hno : ¬ (∀ i, i < n → p i) → some no = r) : bindE (whileO f x0) k = r := by
 have key : ∀ (m i : Nat), i + m = n → ((∀ j, i ≤ j → j < n → p j) → whileO f (mk i) = some (.inl fin)) ∧ (¬ (∀ j, i ≤ j → j < n → p j) → whileO f (mk i) = some (.inr no)) := by
  intro m
  induction m with
  | zero =>
   intro i hi
   have : i = n := by omega
   subst this
   rw [whileO_eq, hend]
   exact ⟨fun _ => rfl, fun h => absurd (fun j h1 h2 => absurd h2 (by omega)) h⟩
  | succ m ih =>
   intro i hi
   obtain ⟨i1, i2⟩ := ih (i + 1) (by omega)
   rw [whileO_eq]
   by_cases hp : p i
   ·rw [hy i (by omega) hp]
    refine ⟨fun h => i1 fun j h1 h2 => h j (by omega) h2, fun h => i2 fun h' => h fun j h1 h2 => ?_⟩
    by_cases hj : j = i
    ·rw [hj]; exact hp
    ·exact h' j (by omega) h2
   ·rw [hn i (by omega) hp]
    exact ⟨fun h => absurd (h i (Nat.le_refl _) (by omega)) hp, fun _ => rfl⟩
 obtain ⟨k1, k2⟩ := key n 0 (by omega)
 rw [hx]
 by_cases h : ∀ i, i < n → p i
 ·rw [k1 fun j _ h2 => h j h2, bindE_l, hk h]
 ·rw [k2 fun h' => h fun i hi => h' i (by omega) hi, bindE_r, hno h]
theorem find_loop {f : X → Option (X ⊕ (Y ⊕ R))} (mk : Nat → X) (fin : Y) (l : List α) (p : α → Bool) (g : Nat → R) {x0 : X} (hx : x0 = mk 0) {k : Y → Option R}
  (hend : f (mk l.length) = some (.inr (.inl fin)))
  (hstep : ∀ i (h : i < l.length), f (mk i) = if p l[i] = true then some (.inr (.inr (g i))) else some (.inl (mk (i + 1)))) :
  bindE (whileO f x0) k = match l.findIdx? p with | some j => some (g j) | none => k fin := by
 have key : ∀ (m i : Nat), i + m = l.length → whileO f (mk i) = some (match (l.drop i).findIdx? p with | some j => .inr (g (i + j)) | none => .inl fin) := by
  intro m
  induction m with
  | zero =>
   intro i hi
   have : i = l.length := by omega
   subst this
   rw [whileO_eq, hend, List.drop_eq_nil_of_le (Nat.le_refl _)]
   rfl
  | succ m ih =>
   intro i hi
   have h : i < l.length := by omega
   rw [whileO_eq, hstep i h, drop_cons h, List.findIdx?_cons]
   by_cases hp : p l[i] = true
   ·rw [if_pos hp, if_pos hp]
    rfl
   ·rw [if_neg hp, if_neg hp]
    simp only
    rw [ih (i + 1) (by omega)]
    cases (l.drop (i + 1)).findIdx? p with
    | none => rfl
    | some j => simp only [Option.map_some, Option.some.injEq]; rw [show i + 1 + j = i + (j + 1) by omega]
 rw [hx, key l.length 0 (by omega), List.drop_zero]
 cases l.findIdx? p with
 | none => rfl
 | some j => simp only [bindE_r, Nat.zero_add]
end
end Go.TM
end
section
namespace Go.Stow
instance (b : UInt8) : Decidable (let1 b) := inferInstanceAs (Decidable (_ ∨ _))
instance (b : UInt8) : Decidable (dig1 b) := inferInstanceAs (Decidable (_ ∧ _))
theorem cut_find {c : UInt8} : ∀ l : List UInt8, cut c l = match l.findIdx? (fun x => decide (x = c)) with | some j => some (l.take j, l.drop (j + 1)) | none => none
 | [] => rfl
 | x :: l => by
  rw [List.findIdx?_cons]
  unfold cut
  by_cases hx : x = c
  ·simp [hx]
  ·rw [if_neg hx, if_neg (by simpa using hx), cut_find l]
   cases l.findIdx? (fun x => decide (x = c)) <;> rfl
theorem index_at {c : UInt8} : ∀ {a b : List UInt8}, c ∉ a → Lib.indexByte (a ++ c :: b) c = a.length
 | [], b, _ => by simp [Lib.indexByte]
 | x :: a, b, h => by
  simp only [List.mem_cons, not_or] at h
  have := index_at (b := b) h.2
  have hx : (x == c) = false := by simpa using fun e : x = c => h.1 e.symm
  have h1 : (((a.length : Int)) == -1) = false := by simp <;> omega
  simp only [List.cons_append, Lib.indexByte, hx, Bool.false_eq_true, if_false, this, List.length_cons, h1]
  omega
theorem index_no {c : UInt8} : ∀ {l : List UInt8}, c ∉ l → Lib.indexByte l c = -1
 | [], _ => rfl
 | x :: l, h => by
  simp only [List.mem_cons, not_or] at h
  have hx : (x == c) = false := by simpa using fun e : x = c => h.1 e.symm
  simp only [Lib.indexByte, hx, Bool.false_eq_true, if_false, index_no h.2, beq_self_eq_true, if_true]
end Go.Stow
namespace Go.TM
open Go.AM
section
variable {X Y R : Type}
theorem while_on {f : X → Option (X ⊕ Y)} {x x' : X} (h : f x = some (.inl x')) : whileO f x = whileO f x' := by rw [whileO_eq, h]
theorem while_end {f : X → Option (X ⊕ Y)} {x : X} {y : Y} (h : f x = some (.inr y)) : whileO f x = some y := by rw [whileO_eq, h]
end
end Go.TM
namespace Go.Proofs.YtdpapeledldifaaGreat
open Go Go.AM Go.TM Go.Stow
theorem q107 (n a b : Int) : F107 (n, a, b) = some (decide (a ≤ n ∧ n ≤ b)) := by
 simp only [F107, cndO_d]
 by_cases h : a ≤ n <;> simp [h]
theorem q89 (n a b : Int) : F89 (n, a, b) = some (decide (a ≤ n ∧ n ≤ b)) := q107 n a b
theorem q212 (b : UInt8) : F212 (b.toNat : Int) = some (decide (let1 b)) := by
 simp only [F212, cndO_d]
 repeat' split
 all_goals
  rw [Option.some.injEq, Bool.eq_iff_iff, decide_eq_true_iff (p := let1 b)]
  simp only [let1, decide_eq_true_eq, true_iff, Bool.false_eq_true, false_iff]
  omega
theorem n127 (s : List UInt8) (hl : s.length ≤ 1048576) : F127 s = some (decide (Nm s)) := by
 simp only [F127]
 refine askI_loop (fun i => (s, (i : Int))) s false s.length (fun i => ∀ h : i < s.length, let1 s[i] ∨ (i ≠ 0 ∧ dig1 s[i])) rfl ?_ ?_ ?_ ?_ ?_
 ·simp only [Int.lt_irrefl, decide_false, cndO_f]
 ·intro i h hp
  have hp := hp h
  have hi : (i : Int) < s.length := by omega
  have h0 : (0 : Int) ≤ i := by omega
  simp (discharger := omega) only [hi, h0, decide_true, cndO_t, grdO_t, Int.toNat_natCast, atO_get, q212, bindO_s, cndO_n, cndO_d]
  by_cases hq : let1 s[i]
  ·simp (discharger := omega) only [hq, if_true, bindE_l, wI]; rfl
  ·have hd := hp.resolve_left hq
   have hi0 : ¬ (i : Int) = 0 := by omega
   have hd1 : ¬ (s[i].toNat : Int) < 48 := by have := hd.2.1; omega
   have hd2 : ¬ (57 : Int) < s[i].toNat := by have := hd.2.2; omega
   simp (discharger := omega) only [hq, if_false, hi0, hd1, hd2, bindE_l, wI]; rfl
 ·intro i h hp
  have hp : ¬ (let1 s[i] ∨ (i ≠ 0 ∧ dig1 s[i])) := fun e => hp fun _ => e
  have hi : (i : Int) < s.length := by omega
  have h0 : (0 : Int) ≤ i := by omega
  simp (discharger := omega) only [hi, h0, decide_true, cndO_t, grdO_t, Int.toNat_natCast, atO_get, q212, bindO_s, cndO_n, cndO_d]
  have hq : ¬ let1 s[i] := fun e => hp (.inl e)
  simp only [hq, if_false]
  by_cases hi0 : (i : Int) = 0
  ·simp only [hi0, if_true, bindE_r]
  ·by_cases hd1 : (s[i].toNat : Int) < 48
   ·simp only [hi0, hd1, if_true, if_false, bindE_r]
   ·by_cases hd2 : (57 : Int) < s[i].toNat
    ·simp only [hi0, hd1, hd2, if_true, if_false, bindE_r]
    ·exact absurd (.inr ⟨by omega, by omega, by omega⟩) hp
 ·intro h
  rw [q107, bindO_s]
  congr 1
  rw [decide_eq_decide]
  exact ⟨fun ⟨h1, h2⟩ => ⟨⟨by omega, by omega⟩, fun i hi => h i hi hi⟩, fun hn => ⟨by have := hn.1; omega, by have := hn.1; omega⟩⟩
 ·intro h
  rw [eq_comm]
  simp only [Option.some.injEq, decide_eq_false_iff_not]
  exact fun hn => h fun i _ hi => hn.2 i hi
theorem n48 (s : List UInt8) (hl : s.length ≤ 1048576) : F48 s = some (decide (Nm s)) := by
 simp only [F48, q89, bindO_s, cndO_n, cndO_d]
 by_cases hr : (1 : Int) ≤ s.length ∧ (s.length : Int) ≤ 8
 ·rw [if_pos hr]
  have h0 : 0 < s.length := by omega
  simp (discharger := omega) only [atO_get]
  by_cases hd : (48 : Int) ≤ s[0].toNat ∧ (s[0].toNat : Int) ≤ 57
  ·simp only [hd.1, hd.2, if_true, bindE_r, Option.some.injEq, eq_comm (a := false), decide_eq_false_iff_not]
   intro hn
   have := hn.2 0 h0
   simp only [let1, dig1] at this
   omega
  ·rw [show (if (48 : Int) ≤ s[0].toNat then if (s[0].toNat : Int) ≤ 57 then some (Sum.inr false) else some (Sum.inl s) else some (Sum.inl s) : Option (List UInt8 ⊕ Bool)) = some (Sum.inl s) by
    split
    ·split
     ·rename_i a b; exact absurd ⟨a, b⟩ hd
     ·rfl
    ·rfl]
   rw [bindE_l]
   refine askI_loop (fun i => (s, (s.length : Int), (i : Int))) () false s.length (fun i => ∀ h : i < s.length, let1 s[i] ∨ dig1 s[i]) rfl ?_ ?_ ?_ ?_ ?_
   ·simp only [Int.lt_irrefl, if_false]
   ·intro i h hp
    have hp := hp h
    have hi : (i : Int) < s.length := by omega
    have hi0 : (0 : Int) ≤ i := by omega
    have hw : IntKind.wrap .i64 ((i : Int) + 1) = ((i + 1 : Nat) : Int) := by rw [wI (by omega) (by omega)]; omega
    simp (discharger := omega) only [hi, hi0, decide_true, if_true, grdO_t, Int.toNat_natCast, atO_get, bindE_if, bindE_l, bindE_r, hw]
    generalize s[i] = b at hp
    simp only [let1, dig1] at hp
    repeat' split
    all_goals first | rfl | (exfalso; omega)
   ·intro i h hp
    have hp : ¬ (let1 s[i] ∨ dig1 s[i]) := fun e => hp fun _ => e
    have hi : (i : Int) < s.length := by omega
    have hi0 : (0 : Int) ≤ i := by omega
    simp (discharger := omega) only [hi, hi0, decide_true, if_true, grdO_t, Int.toNat_natCast, atO_get, bindE_if, bindE_l, bindE_r]
    generalize s[i] = b at hp
    simp only [let1, dig1] at hp
    repeat' split
    all_goals first | rfl | (exfalso; omega)
   ·intro h
    rw [eq_comm]
    simp only [Option.some.injEq, decide_eq_true_eq]
    refine ⟨⟨by omega, by omega⟩, fun i hi => ?_⟩
    rcases h i hi hi with hq | hq
    ·exact .inl hq
    ·by_cases h00 : i = 0
     ·subst h00; exact absurd ⟨by have := hq.1; omega, by have := hq.2; omega⟩ hd
     ·exact .inr ⟨h00, hq⟩
   ·intro h
    rw [eq_comm]
    simp only [Option.some.injEq, decide_eq_false_iff_not]
    exact fun hn => h fun i _ hi => (hn.2 i hi).imp id fun hq => hq.2
 ·rw [if_neg hr, bindE_r, eq_comm]
  simp only [Option.some.injEq, decide_eq_false_iff_not]
  exact fun hn => hr ⟨by have := hn.1; omega, by have := hn.1; omega⟩
end Go.Proofs.YtdpapeledldifaaGreat
end
section
namespace Go.Proofs.YtdpapeledldifaaGreat
open Go Go.AM Go.TM Go.Stow
theorem u8_eq (b : UInt8) (n : Nat) (h : n < 256) : ((b.toNat : Int) = (n : Int)) = (b = UInt8.ofNat n) := by
 apply propext
 constructor
 ·intro e
  have e : b.toNat = n := by omega
  rw [← e, UInt8.ofNat_toNat]
 ·intro e
  subst e
  rw [UInt8.toNat_ofNat_of_lt' h]
theorem u41 (b : UInt8) : ((b.toNat : Int) = 41) = (b = 41) := u8_eq b 41 (by omega)
theorem u40 (b : UInt8) : ((b.toNat : Int) = 40) = (b = 40) := u8_eq b 40 (by omega)
theorem u59 (b : UInt8) : ((b.toNat : Int) = 59) = (b = 59) := u8_eq b 59 (by omega)
theorem u73 (b : UInt8) : ((b.toNat : Int) = 73) = (b = 73) := u8_eq b 73 (by omega)
theorem u76 (b : UInt8) : ((b.toNat : Int) = 76) = (b = 76) := u8_eq b 76 (by omega)
theorem drop_split {α : Type} {s t r : List α} {n : Nat} (h : s.drop n = t ++ r) : (s.take (n + t.length)).drop n = t ∧ s.drop (n + t.length) = r := by
 constructor
 ·rw [List.drop_take, h, show n + t.length - n = t.length by omega, List.take_left']
  rfl
 ·rw [← List.drop_drop, h, List.drop_left']
  rfl
theorem drop_len {α : Type} {s t r : List α} {n : Nat} (hn : n ≤ s.length) (h : s.drop n = t ++ r) : n + t.length + r.length = s.length := by
 have := congrArg List.length h
 simp only [List.length_drop, List.length_append] at this
 omega
theorem n213 (s : List UInt8) (a : Nat) (hl : s.length ≤ 1048576) (ha : a ≤ s.length) : F213 (s, (a : Int)) = some (match one (s.drop a) with | some (t, _) => ((a + t.length : Nat) : Int) | none => -1) := by
 have h0 : (0 : Int) ≤ a := by omega
 by_cases hlt : (a : Int) < s.length
 ·have hn : a < s.length := by omega
  have hle : ¬ ((s.length : Int) ≤ a) := by omega
  simp (discharger := omega) only [F213, hlt, hle, decide_true, decide_false, cndO_t, cndO_f, grdO_t, h0, Int.toNat_natCast, atO_get, cndO_n, cndO_d, u73, u76, wI]
  rw [drop_cons hn, one_cons]
  by_cases h73 : s[a] = 73
  ·rw [if_pos h73, if_pos h73, bindE_r]
   simp only [List.length_singleton]
   rfl
  ·rw [if_neg h73, if_neg h73, bindE_l]
   simp (discharger := omega) only [hle, if_false, h0, decide_true, grdO_t, Int.toNat_natCast, atO_get]
   by_cases h76 : s[a] = 76
   ·rw [if_pos h76, if_pos h76]
    simp only [bindE_l]
    refine (find_loop (fun j => (s, (a : Int), ((a + 1 + j : Nat) : Int))) () (s.drop (a + 1)) (fun x => decide (x = 59)) (fun j => if Nm ((s.drop (a + 1)).take j) then ((a + 1 + j + 1 : Nat) : Int) else -1) ?_ ?_ ?_).trans ?_
    ·rw [wI (by omega) (by omega)]; rfl
    ·have : ¬ (((a + 1 + (s.drop (a + 1)).length : Nat) : Int) < s.length) := by simp only [List.length_drop]; omega
     simp only [this, if_false]
    ·intro j hj
     have hj' : a + 1 + j < s.length := by simp only [List.length_drop] at hj; omega
     have hi : ((a + 1 + j : Nat) : Int) < s.length := by omega
     have hi0 : (0 : Int) ≤ ((a + 1 + j : Nat) : Int) := by omega
     have hg1 : (0 : Int) ≤ (a : Int) + 1 := by omega
     have hg2 : (a : Int) + 1 ≤ ((a + 1 + j : Nat) : Int) := by omega
     have hg3 : ((a + 1 + j : Nat) : Int) ≤ s.length := by omega
     have ht : ((a : Int) + 1).toNat = a + 1 := by omega
     have hd : (s.take (a + 1 + j)).drop (a + 1) = (s.drop (a + 1)).take j := by rw [List.drop_take]; congr 1; omega
     have hb : ((s.drop (a + 1)).take j).length ≤ 1048576 := by simp only [List.length_take, List.length_drop]; omega
     have hg : (s.drop (a + 1))[j] = s[a + 1 + j] := by simp
     simp (discharger := omega) only [hi, hi0, hg1, hg2, hg3, if_true, decide_true, Bool.and_self, cndO_t, grdO_t, ht, Int.toNat_natCast, atO_get, u59, cndO_d, hd, n127 _ hb, bindO_s, wI, decide_eq_true_eq, hg]
     by_cases hx : s[a + 1 + j] = 59
     ·rw [if_pos hx, if_pos hx]
      by_cases hm : Nm ((s.drop (a + 1)).take j)
      ·rw [if_pos hm, if_pos hm]; rfl
      ·rw [if_neg hm, if_neg hm]
     ·rw [if_neg hx, if_neg hx]
      rfl
    ·rw [cut_find]
     cases hf : (s.drop (a + 1)).findIdx? (fun x => decide (x = 59)) with
     | none => rfl
     | some j =>
      simp only [Option.bind_some]
      have hj := (List.findIdx?_eq_some_iff_getElem.1 hf).1
      by_cases hm : Nm ((s.drop (a + 1)).take j)
      ·rw [if_pos hm, if_pos hm]
       simp only [List.length_cons, List.length_append, List.length_take, List.length_nil]
       rw [Nat.min_eq_left (by omega)]
       congr 1
       omega
      ·rw [if_neg hm, if_neg hm]
   ·rw [if_neg h76, if_neg h76]
    rfl
 ·have hle : (s.length : Int) ≤ a := by omega
  simp only [F213, hlt, hle, decide_true, decide_false, cndO_t, cndO_f, bindE_l, bindE_r]
  rw [List.drop_eq_nil_of_le (by omega)]
  rfl
theorem n128 (s : List UInt8) (hl : s.length ≤ 1048576) : F128 s = some (decide (Tok s)) := by
 simp only [F128, cndO_d]
 by_cases h : (0 : Int) < s.length
 ·have e := n213 s 0 hl (by omega)
  rw [if_pos h]
  rw [show ((0 : Int)) = ((0 : Nat) : Int) from rfl, e, bindO_s, List.drop_zero]
  congr 1
  rw [decide_eq_decide]
  cases ho : one s with
  | none =>
   simp only
   constructor
   ·intro h; omega
   ·intro ht; rw [tok_one, ho] at ht; cases ht
  | some p =>
   obtain ⟨t, r⟩ := p
   obtain ⟨h1, h2⟩ := one_some ho
   simp only [Nat.zero_add]
   constructor
   ·intro hh
    have : r = [] := by
     have := congrArg List.length h1
     rw [List.length_append] at this
     exact List.length_eq_zero_iff.1 (by omega)
    rw [this, List.append_nil] at h1
    rw [h1]; exact h2
   ·intro ht
    rw [tok_one, ho] at ht
    simp only [Option.some.injEq, Prod.mk.injEq] at ht
    rw [ht.1]
 ·rw [if_neg h, eq_comm]
  have : s = [] := List.length_eq_zero_iff.1 (by omega)
  subst this
  simp only [Option.some.injEq, decide_eq_false_iff_not]
  exact not_tok_nil
theorem types_loop {X Y R : Type} {f : X → Option (X ⊕ (Y ⊕ R))} {k : Y → Option R} (s : List UInt8) (mk : List (List UInt8) → Nat → X) (bad : R) (good : List (List UInt8) → List UInt8 → R)
  (hend : ∀ out a, s.length ≤ a → bindE (whileO f (mk out a)) k = some bad)
  (h41 : ∀ out a (h : a < s.length), s[a] = 41 → bindE (whileO f (mk out a)) k = some (good out (s.drop (a + 1))))
  (hbad : ∀ out a (h : a < s.length), s[a] ≠ 41 → (one (s.drop a) = none ∨ 4 ≤ out.length) → bindE (whileO f (mk out a)) k = some bad)
  (hstep : ∀ out a t r (h : a < s.length), s[a] ≠ 41 → one (s.drop a) = some (t, r) → out.length < 4 → f (mk out a) = some (.inl (mk (out ++ [t]) (a + t.length)))) :
  ∀ (n a : Nat) (out : List (List UInt8)), out.length + n = 4 → a ≤ s.length → bindE (whileO f (mk out a)) k = some (match more n (s.drop a) with | some (ts, b) => good (out ++ ts) b | none => bad) := by
 intro n
 induction n with
 | zero =>
  intro a out ho ha
  by_cases h : a < s.length
  ·rw [drop_cons h]
   simp only [more]
   by_cases hx : s[a] = 41
   ·rw [if_pos hx, h41 out a h hx]; simp only [List.append_nil]
   ·rw [if_neg hx, hbad out a h hx (.inr (by omega))]
  ·rw [hend out a (by omega), List.drop_eq_nil_of_le (by omega)]
   rfl
 | succ n ih =>
  intro a out ho ha
  by_cases h : a < s.length
  ·rw [drop_cons h, more_succ]
   by_cases hx : s[a] = 41
   ·rw [if_pos hx, h41 out a h hx]; simp only [List.append_nil]
   ·rw [if_neg hx, ← drop_cons h]
    cases hone : one (s.drop a) with
    | none => rw [hbad out a h hx (.inl hone)]; rfl
    | some p =>
     obtain ⟨t, r⟩ := p
     have hds := drop_split (one_some hone).1
     have hdl := drop_len ha (one_some hone).1
     rw [while_on (hstep out a t r h hx hone (by omega)), ih (a + t.length) (out ++ [t]) (by simp; omega) (by omega), hds.2]
     simp only [Option.bind_some]
     cases more n r with
     | none => rfl
     | some q => simp only [Option.map_some, List.append_assoc, List.singleton_append]
  ·rw [hend out a (by omega), List.drop_eq_nil_of_le (by omega)]
   rfl
noncomputable def fin3 (ts : List (List UInt8)) (back : List UInt8) : List (List UInt8) × List UInt8 × Bool := if back = [86] ∨ Tok back then (ts, back, true) else ([], [], false)
theorem dsc_cons (x : UInt8) (l : List UInt8) : dsc (x :: l) = if x = 40 then (match more 4 l with | some (ts, b) => fin3 ts b | none => ([], [], false)) else ([], [], false) := by
 simp only [dsc]
 split
 ·cases more 4 l with
  | none => rfl
  | some p => rfl
 ·rfl
theorem n214 (s : List UInt8) (hl : s.length ≤ 1048576) : F214 s = some (dsc s) := by
 cases hs : s with
 | nil => rfl
 | cons x l =>
  have hne : ¬ (((x :: l).length : Int) = 0) := by simp only [List.length_cons]; omega
  have hpos : 0 < (x :: l).length := by simp
  rw [dsc_cons]
  simp (discharger := assumption) only [F214, hne, decide_false, cndO_f, atO_get, cndO_n, cndO_d, u40, u41, List.getElem_cons_zero]
  by_cases h40 : x = 40
  ·rw [if_pos h40, if_pos h40, bindE_l]
   rw [← hs]
   have hd1 : s.drop 1 = l := by rw [hs]; rfl
   rw [← hd1]
   refine types_loop s (fun out a => (s, out, (a : Int))) ([], [], false) fin3 ?_ ?_ ?_ ?_ 4 1 [] rfl (by rw [hs]; simp)
   ·intro out a ha
    have h1 : ¬ ((a : Int) < s.length) := by omega
    have h2 : (s.length : Int) ≤ a := by omega
    rw [while_end (y := .inl (s, out, (a : Int))) (by simp only [h1, if_false, bindE_r])]
    simp only [bindE_l, h2, if_true]
   ·intro out a h hx
    have h1 : (a : Int) < s.length := by omega
    have h2 : ¬ (s.length : Int) ≤ a := by omega
    have h0 : (0 : Int) ≤ a := by omega
    rw [while_end (y := .inl (s, out, (a : Int))) (by simp (discharger := omega) only [h1, if_true, h0, decide_true, grdO_t, Int.toNat_natCast, atO_get, hx, bindE_r])]
    have ht : ((a : Int) + 1).toNat = a + 1 := by omega
    have hg1 : (0 : Int) ≤ (a : Int) + 1 := by omega
    have hg2 : (a : Int) + 1 ≤ s.length := by omega
    have hb : (s.drop (a + 1)).length ≤ 1048576 := by simp only [List.length_drop]; omega
    simp (discharger := omega) only [bindE_l, h2, if_false, wI, ht, hg1, hg2, Int.le_refl, decide_true, Bool.and_self, grdO_t, Int.toNat_natCast, List.take_length, n128 _ hb, bindO_s, cndO_d, fin3]
    by_cases hv : s.drop (a + 1) = [86]
    ·simp only [hv, if_true, true_or]
    ·by_cases htk : Tok (s.drop (a + 1)) <;> simp only [hv, htk, if_true, if_false, false_or]
   ·intro out a h hx hh
    have h1 : (a : Int) < s.length := by omega
    have h0 : (0 : Int) ≤ a := by omega
    rw [while_end (y := .inr ([], [], false))]
    ·rfl
    ·simp (discharger := omega) only [h1, if_true, h0, decide_true, grdO_t, Int.toNat_natCast, atO_get, hx, if_false, bindE_l, n213 s a hl (by omega), bindO_s]
     cases ho : one (s.drop a) with
     | none => rfl
     | some p =>
      obtain ⟨t, r⟩ := p
      rcases hh with hh | hh
      ·rw [ho] at hh; cases hh
      ·have q1 : ¬ (((a + t.length : Nat) : Int) < 0) := by omega
       have q2 : (4 : Int) ≤ out.length := by omega
       simp only [q1, q2, if_true, if_false, bindE_r]
   ·intro out a t r h hx ho hlt
    have h1 : (a : Int) < s.length := by omega
    have h0 : (0 : Int) ≤ a := by omega
    have hds := drop_split (one_some ho).1
    have hdl := drop_len (by omega) (one_some ho).1
    have q1 : ¬ (((a + t.length : Nat) : Int) < 0) := by omega
    have q2 : ¬ (4 : Int) ≤ out.length := by omega
    have q3 : (a : Int) ≤ ((a + t.length : Nat) : Int) := by omega
    have q4 : ((a + t.length : Nat) : Int) ≤ s.length := by omega
    have q5 : out.length + 1 ≤ 9223372036854775807 := by omega
    have q6 : (out.length + 1) * 16 ≤ 140737488355328 := by omega
    simp (discharger := omega) only [h1, if_true, h0, decide_true, grdO_t, Int.toNat_natCast, atO_get, hx, if_false, bindE_l, n213 s a hl (by omega), bindO_s, ho, q1, q2, q3, q4, q5, q6, Bool.and_self, hds.1]
  ·rw [if_neg h40, if_neg h40, bindE_r]
theorem n129 (s : List UInt8) (hl : s.length ≤ 1048576) : F129 s = some (decide (Dsc s)) := by
 simp only [F129, n214 s hl, bindO_s]
 congr 1
 rw [Bool.eq_iff_iff, decide_eq_true_iff]
 exact Iff.rfl
end Go.Proofs.YtdpapeledldifaaGreat
end
section
namespace Go.Proofs.YtdpapeledldifaaGreat
open Go Go.AM Go.TM Go.Stow
theorem n204 (s : List UInt8) (c : UInt8) (hl : s.length ≤ 1048576) : F204 (s, [c]) = some (match s with | x :: l => if x = c then (l, true) else (s, false) | [] => (s, false)) := by
 cases s with
 | nil => rfl
 | cons x l =>
  have h1 : (([c] : List UInt8).length : Int) ≤ (x :: l).length := by simp only [List.length_cons, List.length_nil]; omega
  have h0 : (0 : Int) ≤ (([c] : List UInt8).length : Int) := by simp
  have ht : Int.toNat (([c] : List UInt8).length : Int) = 1 := rfl
  simp only [F204, F259, F293, h1, h0, Int.le_refl, decide_true, cndO_t, Bool.and_self, grdO_t, ht, bindO_s, cndO_n, cndO_d, Int.toNat_natCast, List.take_length, List.drop_zero, List.take_succ_cons, List.take_zero, List.drop_succ_cons]
  by_cases hx : x = c
  ·rw [if_pos (by rw [hx]), if_pos hx, bindO_s]
  ·rw [if_neg (by simpa using hx), if_neg hx, bindO_s]
theorem n205 (s : List UInt8) (c : UInt8) (hl : s.length ≤ 1048576) : ∃ t b, F205 (s, [c]) = some (t, b) ∧ (b = true → s = t ++ [c]) ∧ (b = false → ∀ u, s ≠ u ++ [c]) := by
 by_cases hs : s = []
 ·subst hs
  exact ⟨[], false, rfl, (fun h => by cases h), fun _ u h => by simp at h⟩
 ·have hpos : 0 < s.length := List.length_pos_iff.2 hs
  have h1 : (([c] : List UInt8).length : Int) ≤ s.length := by simp; omega
  have e1 : (([c] : List UInt8).length : Int) = 1 := rfl
  have g1 : (0 : Int) ≤ (s.length : Int) - 1 := by omega
  have g2 : (s.length : Int) - 1 ≤ s.length := by omega
  have ht : ((s.length : Int) - 1).toNat = s.length - 1 := by omega
  have hsp : s.take (s.length - 1) ++ s.drop (s.length - 1) = s := List.take_append_drop _ _
  rw [e1] at h1
  simp (discharger := omega) only [F205, F260, F294, e1, h1, decide_true, cndO_t, wI, g1, g2, Int.le_refl, Bool.and_self, grdO_t, ht, Int.toNat_natCast, List.take_length, bindO_s, cndO_n, cndO_d, List.drop_zero]
  by_cases hx : s.drop (s.length - 1) = [c]
  ·rw [if_pos hx, bindO_s]
   refine ⟨_, _, rfl, fun _ => ?_, fun h => by cases h⟩
   rw [← hx, hsp]
  ·rw [if_neg hx, bindO_s]
   refine ⟨_, _, rfl, (fun h => by cases h), fun _ u hu => hx ?_⟩
   rw [hu]
   simp
theorem n122 (s : List UInt8) (hl : s.length ≤ 1048576) : F122 s = some (decide (Tok s)) := by
 simp only [F122, F115, n204 s 76 hl, bindO_s]
 cases s with
 | nil =>
  obtain ⟨t, b, e, h1, h2⟩ := n205 [] 59 (by simp)
  rw [e]
  simp [not_tok_nil]
 | cons x l =>
  by_cases hx : x = 76
  ·simp only [hx, if_true]
   have hll : l.length ≤ 1048576 := by simp only [List.length_cons] at hl; omega
   obtain ⟨t, b, e, h1, h2⟩ := n205 l 59 hll
   rw [e]
   cases b with
   | true =>
    have h1 := h1 rfl
    have htl : t.length ≤ 1048576 := by rw [h1, List.length_append] at hll; omega
    simp only [bindO_s, cndO_t, n48 t htl, cndO_d]
    by_cases hn : Nm t
    ·rw [if_pos hn, eq_comm]
     simp only [Option.some.injEq, decide_eq_true_eq]
     exact .inr ⟨t, hn, by rw [h1]⟩
    ·rw [if_neg hn]
     congr 1
     rw [decide_eq_decide]
     refine ⟨fun h => .inl h, fun h => ?_⟩
     rcases h with h | ⟨n, hm, h⟩
     ·exact h
     ·simp only [List.cons.injEq, true_and] at h
      rw [h1] at h
      have := List.append_cancel_right h
      rw [this] at hn
      exact absurd hm hn
   | false =>
    have h2 := h2 rfl
    simp only [bindO_s, cndO_t, cndO_f]
    congr 1
    rw [decide_eq_decide]
    refine ⟨fun h => .inl h, fun h => ?_⟩
    rcases h with h | ⟨n, hm, h⟩
    ·exact h
    ·simp only [List.cons.injEq, true_and] at h
     exact absurd h (h2 n)
  ·simp only [hx, if_false]
   obtain ⟨t, b, e, h1, h2⟩ := n205 (x :: l) 59 hl
   rw [e]
   simp only [bindO_s, cndO_f]
   congr 1
   rw [decide_eq_decide]
   refine ⟨fun h => .inl h, fun h => ?_⟩
   rcases h with h | ⟨n, hm, h⟩
   ·exact h
   ·simp only [List.cons.injEq] at h
    exact absurd h.1 hx
theorem n289 (s : List UInt8) (c : UInt8) : F289 (s, (c.toNat : Int)) = some (Lib.indexByte s c) := by
 simp only [F289, F322, bindO_s, Int.toNat_natCast]
 rw [show c.toNat.toUInt8 = c from UInt8.ofNat_toNat]
theorem n239 (s : List UInt8) : F239 (s, 59) = some (Lib.indexByte s 59) := by
 simp only [F239]
 rw [show ((59 : Int)) = (((59 : UInt8).toNat : Nat) : Int) from rfl, n289, bindO_s]
theorem n238 (s : List UInt8) (hl : s.length ≤ 1048576) : F238 s = some (match cut 41 s with | some (a, b) => (a, b, true) | none => (s, [], false)) := by
 have e321 : F321 s = some (Lib.indexByte s 41) := by
  simp only [F321, bindE_l, cndO_d, decide_true, cndO_t]
  have hat : ∀ k : UInt8 → Option Int, atO [41] 0 k = k 41 := fun k => rfl
  rw [hat, n289 s 41, bindO_s]
  by_cases h : ([41] : List UInt8) = s
  ·rw [if_pos h, ← h]; rfl
  ·rw [if_neg h]; rfl
 simp only [F238, F288, e321, bindO_s, cndO_d]
 cases hc : cut 41 s with
 | none =>
  rw [index_no (cut_none.1 hc), if_neg (by omega)]
  rfl
 | some p =>
  obtain ⟨a, b⟩ := p
  obtain ⟨h1, h2⟩ := cut_some hc
  have hlen : s.length = a.length + (b.length + 1) := by rw [h1]; simp
  rw [show Lib.indexByte s 41 = (a.length : Int) by rw [h1]; exact index_at h2]
  have g0 : (0 : Int) ≤ a.length := by omega
  have g1 : (a.length : Int) ≤ s.length := by omega
  have g2 : (0 : Int) ≤ (a.length : Int) + 1 := by omega
  have g3 : (a.length : Int) + 1 ≤ s.length := by omega
  have ht : ((a.length : Int) + 1).toNat = a.length + 1 := by omega
  have hta : s.take a.length = a := by rw [h1]; simp
  have hda : s.drop (a.length + 1) = b := by rw [h1]; simp
  simp (discharger := omega) only [g0, g1, g2, g3, wI, if_true, decide_true, Bool.and_self, grdO_t, seqU_s, Int.le_refl, Int.toNat_natCast, ht, List.take_length, hta, hda, List.drop_zero, bindO_s]
theorem rest_loop {X Y R : Type} {f : X → Option (X ⊕ (Y ⊕ R))} {k : Y → Option R} (mk : List (List UInt8) → List UInt8 → X) (bad : R) (good : List (List UInt8) → R)
  (hend : ∀ out, bindE (whileO f (mk out [])) k = some (good out))
  (hbad : ∀ out x l, (x :: l).length ≤ 1048576 → (one (x :: l) = none ∨ out.length = 4) → bindE (whileO f (mk out (x :: l))) k = some bad)
  (hstep : ∀ out x l t r, (x :: l).length ≤ 1048576 → one (x :: l) = some (t, r) → out.length < 4 → f (mk out (x :: l)) = some (.inl (mk (out ++ [t]) r))) :
  ∀ (n : Nat) (s : List UInt8) (out : List (List UInt8)), s.length ≤ 1048576 → out.length + n = 4 → bindE (whileO f (mk out s)) k = some (match mr n s with | some ts => good (out ++ ts) | none => bad) := by
 intro n
 induction n with
 | zero =>
  intro s out hs ho
  cases s with
  | nil => rw [hend]; simp only [mr, List.append_nil]
  | cons x l => rw [hbad out x l hs (.inr (by omega))]; rfl
 | succ n ih =>
  intro s out hs ho
  cases s with
  | nil => rw [hend]; simp only [mr, List.append_nil]
  | cons x l =>
   rw [mr_succ]
   cases hone : one (x :: l) with
   | none => rw [hbad out x l hs (.inl hone)]; rfl
   | some p =>
    obtain ⟨t, r⟩ := p
    have hle : r.length ≤ 1048576 := by
     have := congrArg List.length (one_some hone).1
     rw [List.length_append] at this
     omega
    rw [while_on (hstep out x l t r hs hone (by omega)), ih r (out ++ [t]) hle (by simp; omega)]
    simp only [Option.bind_some]
    cases mr n r with
    | none => rfl
    | some q => simp only [Option.map_some, List.append_assoc, List.singleton_append]
noncomputable def stop (x : UInt8) (l : List UInt8) : Nat := if x = 73 then 1 else (Lib.indexByte (x :: l) 59 + 1).toNat
theorem stop_le (x : UInt8) (l : List UInt8) : stop x l ≤ (x :: l).length ∧ ((Lib.indexByte (x :: l) 59 + 1 : Int) = ((Lib.indexByte (x :: l) 59 + 1).toNat : Int)) ∧ (Lib.indexByte (x :: l) 59 + 1).toNat ≤ (x :: l).length := by
 have h : (Lib.indexByte (x :: l) 59 + 1).toNat ≤ (x :: l).length := by
  cases hc : cut 59 (x :: l) with
  | none => rw [index_no (cut_none.1 hc)]; simp
  | some p =>
   obtain ⟨a, b⟩ := p
   obtain ⟨h1, h2⟩ := cut_some hc
   rw [h1, index_at h2]
   simp
 have := Lib.indexByte_ge (x :: l) 59
 refine ⟨?_, by omega, h⟩
 unfold stop
 split
 ·simp
 ·exact h
theorem stop_tok (x : UInt8) (l : List UInt8) : (Tok ((x :: l).take (stop x l)) → one (x :: l) = some ((x :: l).take (stop x l), (x :: l).drop (stop x l))) ∧ (¬ Tok ((x :: l).take (stop x l)) → one (x :: l) = none) := by
 constructor
 ·intro h
  have := one_tok h ((x :: l).drop (stop x l))
  rwa [List.take_append_drop] at this
 ·intro h
  rw [one_none]
  intro t r e ht
  have h0 := ht
  rcases ht with rfl | ⟨n, hn, rfl⟩
  ·have hx : x = 73 := by simp at e; exact e.1
   rw [show stop x l = 1 by unfold stop; rw [if_pos hx]] at h
   apply h
   rw [e]
   exact h0
  ·have e2 : x :: l = (76 :: n) ++ 59 :: r := by rw [e]; simp
   have hx : x = 76 := by simp at e; exact e.1
   have hno : (59 : UInt8) ∉ 76 :: n := by
    have := hn.no 59 no59
    simp [this]
   apply h
   have hs : stop x l = (76 :: n).length + 1 := by
    unfold stop
    rw [if_neg (by rw [hx]; decide), e2, index_at hno]
    omega
   rw [hs, e2]
   have : ((76 :: n) ++ 59 :: r).take ((76 :: n).length + 1) = 76 :: (n ++ [59]) := by
    rw [show (76 :: n) ++ 59 :: r = (76 :: (n ++ [59])) ++ r by simp, show (76 :: n).length + 1 = (76 :: (n ++ [59])).length by simp]
    exact List.take_left' rfl
   rw [this]
   exact h0
theorem n170 (s : List UInt8) (hl : s.length ≤ 1048576) : F170 s = some (dsc s) := by
 simp only [F170, n238 s hl, bindO_s]
 cases hc : cut 41 s with
 | none =>
  simp only [cndO_n, cndO_f, n204 s 40 hl]
  have : dsc s = ([], [], false) := by
   cases s with
   | nil => rfl
   | cons x l =>
    rw [dsc_cons]
    have h41 := cut_none.1 hc
    simp only [List.mem_cons, not_or] at h41
    rw [more_none 4 l h41.2]
    split <;> rfl
  rw [this]
  cases s with
  | nil => rfl
  | cons x l => by_cases hx : x = 40 <;> simp only [hx, if_true, if_false, bindO_s, bindE_r]
 | some p =>
  obtain ⟨a, b⟩ := p
  obtain ⟨h1, h2⟩ := cut_some hc
  have hal : a.length ≤ 1048576 := by rw [h1, List.length_append] at hl; omega
  have hbl : b.length ≤ 1048576 := by rw [h1, List.length_append, List.length_cons] at hl; omega
  simp only [n204 a 40 hal, bindO_s]
  cases a with
  | nil =>
   simp only [cndO_n, cndO_t, cndO_f, bindE_r]
   rw [h1, List.nil_append, dsc_cons, if_neg (by decide)]
  | cons x l =>
   rw [h1, List.cons_append, dsc_cons]
   by_cases hx : x = 40
   ·have hno : (41 : UInt8) ∉ l := fun hm => h2 (by simp [hm])
    have hll : l.length ≤ 1048576 := by simp only [List.length_cons] at hal; omega
    rw [if_pos hx, more_cut 4 l b hno]
    simp only [hx, if_true, cndO_n, cndO_t, cndO_d, n122 b hbl, bindO_s]
    by_cases hb : b = [86] ∨ Tok b
    ·have hgo : ∀ A B : Option ((List UInt8 × List UInt8) ⊕ (List (List UInt8) × List UInt8 × Bool)), (if b = [86] then A else (if Tok b then A else B)) = A := by
      intro A B
      rcases hb with hb | hb
      ·rw [if_pos hb]
      ·rw [if_pos hb]; split <;> rfl
     rw [hgo, bindE_l]
     simp only
     refine (rest_loop (fun out rest => (b, rest, out)) ([], [], false) (fun ts => (ts, b, true)) ?_ ?_ ?_ 4 l [] hll rfl).trans ?_
     ·intro out
      rw [while_end (y := .inl (b, out)) (by simp only [if_true])]
      rfl
     ·intro out x l hs hh
      have hne : ¬ (x :: l = []) := by simp
      obtain ⟨s1, s2, s3⟩ := stop_le x l
      obtain ⟨k1, k2⟩ := stop_tok x l
      rw [while_end (y := .inr ([], [], false))]
      ·rfl
      ·simp only [hne, if_false, atO, List.getElem?_cons_zero, u73, n239, bindO_s]
       rw [show IntKind.wrap .i64 (Lib.indexByte (x :: l) 59 + 1) = ((Lib.indexByte (x :: l) 59 + 1).toNat : Int) by rw [wI (by omega) (by omega)]; exact s2]
       rw [show (if x = 73 then some (Sum.inl (b, x :: l, out, (1 : Int))) else some (Sum.inl (b, x :: l, out, ((Lib.indexByte (x :: l) 59 + 1).toNat : Int))) : Option ((List UInt8 × List UInt8 × List (List UInt8) × Int) ⊕ ((List UInt8 × List UInt8 × List (List UInt8)) ⊕ ((List UInt8 × List (List UInt8)) ⊕ (List (List UInt8) × List UInt8 × Bool))))) = some (Sum.inl (b, x :: l, out, (stop x l : Int))) by unfold stop; split <;> rfl]
       have g0 : (0 : Int) ≤ (stop x l : Int) := by omega
       have g1 : (stop x l : Int) ≤ ((x :: l).length : Int) := by omega
       have hb1 : ((x :: l).take (stop x l)).length ≤ 1048576 := by simp only [List.length_take]; omega
       simp only [bindE_l, g0, g1, decide_true, Bool.and_self, grdO_t, Int.toNat_natCast, List.drop_zero, n122 _ hb1, bindO_s, cndO_d]
       by_cases htk : Tok ((x :: l).take (stop x l))
       ·rw [if_pos htk]
        have h4 : (out.length : Int) = 4 := by
         rcases hh with hh | hh
         ·rw [k1 htk] at hh; cases hh
         ·omega
        rw [if_pos h4, bindE_r]
       ·rw [if_neg htk, bindE_r]
     ·intro out x l t r hs ho hlt
      have hne : ¬ (x :: l = []) := by simp
      obtain ⟨s1, s2, s3⟩ := stop_le x l
      obtain ⟨k1, k2⟩ := stop_tok x l
      simp only [hne, if_false, atO, List.getElem?_cons_zero, u73, n239, bindO_s]
      rw [show IntKind.wrap .i64 (Lib.indexByte (x :: l) 59 + 1) = ((Lib.indexByte (x :: l) 59 + 1).toNat : Int) by rw [wI (by omega) (by omega)]; exact s2]
      rw [show (if x = 73 then some (Sum.inl (b, x :: l, out, (1 : Int))) else some (Sum.inl (b, x :: l, out, ((Lib.indexByte (x :: l) 59 + 1).toNat : Int))) : Option ((List UInt8 × List UInt8 × List (List UInt8) × Int) ⊕ ((List UInt8 × List UInt8 × List (List UInt8)) ⊕ ((List UInt8 × List (List UInt8)) ⊕ (List (List UInt8) × List UInt8 × Bool))))) = some (Sum.inl (b, x :: l, out, (stop x l : Int))) by unfold stop; split <;> rfl]
      have g0 : (0 : Int) ≤ (stop x l : Int) := by omega
      have g1 : (stop x l : Int) ≤ ((x :: l).length : Int) := by omega
      have hb1 : ((x :: l).take (stop x l)).length ≤ 1048576 := by simp only [List.length_take]; omega
      simp only [bindE_l, g0, g1, decide_true, Bool.and_self, grdO_t, Int.toNat_natCast, List.drop_zero, n122 _ hb1, bindO_s, cndO_d]
      have htk : Tok ((x :: l).take (stop x l)) := Classical.byContradiction fun hn => by rw [k2 hn] at ho; cases ho
      have h4 : ¬ (out.length : Int) = 4 := by omega
      have q5 : out.length + 1 ≤ 9223372036854775807 := by omega
      have q6 : (out.length + 1) * 16 ≤ 140737488355328 := by omega
      rw [if_pos htk, if_neg h4, bindE_l]
      rw [k1 htk] at ho
      simp only [Option.some.injEq, Prod.mk.injEq] at ho
      simp only [g0, g1, q5, q6, Int.le_refl, decide_true, Bool.and_self, grdO_t, Int.toNat_natCast, List.take_length, List.drop_zero, ho.1, ho.2]
     ·cases mr 4 l with
      | none => rfl
      | some ts => simp only [List.nil_append, Option.map_some, fin3, if_pos hb]
    ·have hb1 : ¬ b = [86] := fun h => hb (.inl h)
     have hb2 : ¬ Tok b := fun h => hb (.inr h)
     simp only [hb1, hb2, if_false, bindE_r]
     cases mr 4 l with
     | none => rfl
     | some ts => simp only [Option.map_some, fin3, if_neg hb]
   ·rw [if_neg hx]
    simp only [hx, if_false, cndO_n, cndO_t, cndO_f, bindE_r]
end Go.Proofs.YtdpapeledldifaaGreat
end
section
namespace Go.Stow
def bndP (p : List Ent) : Prop := p.length ≤ 1048576 ∧ ∀ x ∈ p, x.2.1.length ≤ 1048576
theorem bndP.at {p : List Ent} (h : bndP p) (i : Int) : (entAt p i).2.1.length ≤ 1048576 := by
 unfold entAt
 split
 ·rename_i hi
  rw [List.getElem?_eq_getElem (by omega)]
  exact h.2 _ (List.getElem_mem _)
 ·simp
end Go.Stow
namespace Go.Proofs.YtdpapeledldifaaGreat
open Go Go.AM Go.TM Go.Stow
theorem n113 (s : List UInt8) (hl : s.length ≤ 1048576) : F113 s = some (decide (Dsc s)) := by
 simp only [F113, n170 s hl, bindO_s]
 congr 1
 rw [Bool.eq_iff_iff, decide_eq_true_iff]
 exact Iff.rfl
noncomputable instance (s : List UInt8) : Decidable (Typed s) := Classical.propDecidable _
theorem n121 (s : List UInt8) (hl : s.length ≤ 1048576) : F121 s = some (decide (Typed s)) := by
 simp only [F121, n122 s hl, n113 s hl, bindO_s, cndO_d]
 by_cases h : Tok s
 ·rw [if_pos h, eq_comm]; simp only [Option.some.injEq, decide_eq_true_eq]; exact .inl h
 ·rw [if_neg h]; congr 1; rw [decide_eq_decide]
  exact ⟨fun h => .inr h, fun h' => h'.resolve_left h⟩
theorem q215 (p : List Cst) (i : Int) (hp : p.length ≤ 1048576) : F215 (p, i) = some (entAt p i) := by
 simp only [F215, q107, bindO_s, cndO_d]
 unfold entAt
 by_cases h : 1 ≤ i ∧ i ≤ p.length
 ·rw [if_pos h, if_pos h]
  have h1 : (0 : Int) ≤ i - 1 := by omega
  rw [wI (by omega) (by omega), grdO_d h1, atO_get (by omega), List.getElem?_eq_getElem (by omega)]
  rfl
 ·rw [if_neg h, if_neg h]
theorem q124 (p : List Cst) (i : Int) (hp : p.length ≤ 1048576) : F124 (p, i) = some (entAt p i) := by
 simp only [F124, q89, bindO_s, cndO_n, cndO_d]
 unfold entAt
 by_cases h : 1 ≤ i ∧ i ≤ p.length
 ·rw [if_pos h, if_pos h]
  have h1 : (0 : Int) ≤ i - 1 := by omega
  rw [wI (by omega) (by omega), grdO_d h1, atO_get (by omega), List.getElem?_eq_getElem (by omega)]
  rfl
 ·rw [if_neg h, if_neg h]
theorem bindO_e {R : Type} {r : Option Cst} {e : Cst} (h : r = some e) (k : Cst → Option R) : bindO r k = k (e.1, e.2.1, e.2.2.1, e.2.2.2) := by rw [h]; rfl
theorem q131 (p : List Cst) (i : Int) (hp : bndP p) : F131 (p, i) = some (txt p i) := by
 simp only [F131]
 rw [bindO_e (q215 p i hp.1)]
 simp only [cndO_n, cndO_d, txt]
 split <;> rfl
theorem txt_len {p : List Cst} (h : bndP p) (i : Int) : (txt p i).length ≤ 1048576 := by
 unfold txt
 split
 ·exact h.at i
 ·simp
theorem q130 (p : List Cst) (i : Int) (hp : bndP p) : F130 (p, i) = some (clsN p i) := by
 simp only [F130]
 rw [bindO_e (q215 p i hp.1)]
 simp only
 rw [bindO_e (q215 p _ hp.1)]
 simp only [cndO_n, cndO_d, n127 _ (hp.at _), bindO_s, clsN]
 by_cases h1 : (entAt p i).1 = 2
 ·by_cases h2 : (entAt p (entAt p i).2.2.1).1 = 1
  ·by_cases h3 : Nm (entAt p (entAt p i).2.2.1).2.1
   ·rw [if_pos h1, if_pos h2, if_pos h3, if_pos ⟨h1, h2, h3⟩]
   ·rw [if_pos h1, if_pos h2, if_neg h3, if_neg fun h => h3 h.2.2]
  ·rw [if_pos h1, if_neg h2, if_neg fun h => h2 h.2.1]
 ·rw [if_neg h1, if_neg fun h => h1 h.1]
theorem q132 (p : List Cst) (i : Int) (hp : bndP p) : F132 (p, i) = some (clsN p (entAt p i).2.2.1, txt p (entAt p (entAt p i).2.2.2).2.2.1, txt p (entAt p (entAt p i).2.2.2).2.2.2) := by
 simp only [F132]
 rw [bindO_e (q215 p i hp.1)]
 simp only
 rw [bindO_e (q215 p _ hp.1)]
 simp only [q130 p _ hp, q131 p _ hp, bindO_s, eq_self, decide_true, grdO_t, seqU_s]
theorem q133 (p : List Cst) (i k : Int) (hp : bndP p) : F133 (p, i, k) = some (decide ((entAt p i).1 = k)) := by
 simp only [F133]
 rw [bindO_e (q215 p i hp.1)]
theorem at_some {p : List Cst} {i : Int} {Q : List UInt8 → Prop} [Decidable (Q (entAt p i).2.1)] : (if (entAt p i).1 = 1 then some (decide (Q (entAt p i).2.1)) else some false : Option Bool) = some (decide (TxtAt p i Q)) := by
 by_cases h : (entAt p i).1 = 1
 ·rw [if_pos h]; congr 1; rw [decide_eq_decide]; exact ⟨fun h' => ⟨h, h'⟩, fun h' => h'.2⟩
 ·rw [if_neg h, eq_comm]; simp only [Option.some.injEq, decide_eq_false_iff_not]; exact fun h' => h h'.1
theorem q49126 (p : List Cst) (i : Int) (hp : bndP p) : F49126 (p, i) = some (decide (TxtAt p i Nm)) := by
 simp only [F49126]
 rw [bindO_e (q124 p i hp.1)]
 simp only [n48 _ (hp.at i), bindO_s, cndO_d]
 exact at_some
theorem q122126 (p : List Cst) (i : Int) (hp : bndP p) : F122126 (p, i) = some (decide (TxtAt p i Typed)) := by
 simp only [F122126]
 rw [bindO_e (q124 p i hp.1)]
 simp only [n121 _ (hp.at i), bindO_s, cndO_d]
 exact at_some
theorem q123126 (p : List Cst) (i : Int) (hp : bndP p) : F123126 (p, i) = some (decide (TxtAt p i Tok)) := by
 simp only [F123126]
 rw [bindO_e (q124 p i hp.1)]
 simp only [n122 _ (hp.at i), bindO_s, cndO_d]
 exact at_some
theorem q114126 (p : List Cst) (i : Int) (hp : bndP p) : F114126 (p, i) = some (decide (TxtAt p i Dsc)) := by
 simp only [F114126]
 rw [bindO_e (q124 p i hp.1)]
 simp only [n113 _ (hp.at i), bindO_s, cndO_d]
 exact at_some
theorem q125 (p : List Cst) (i : Int) (hp : bndP p) : F125 (p, i) = some (decide (ClsAt p i)) := by
 simp only [F125]
 rw [bindO_e (q124 p i hp.1)]
 simp only [q49126 p _ hp, bindO_s, cndO_d]
 by_cases h : (entAt p i).1 = 2
 ·rw [if_pos h]; congr 1; rw [decide_eq_decide]; exact ⟨fun h' => ⟨h, h'⟩, fun h' => h'.2⟩
 ·rw [if_neg h, eq_comm]; simp only [Option.some.injEq, decide_eq_false_iff_not]; exact fun h' => h h'.1
theorem sd {P : Prop} [Decidable P] : ∀ {b : Bool}, (b = true ↔ P) → some b = some (decide P) := by
 intro b h
 congr 1
 rw [Bool.eq_iff_iff, h, decide_eq_true_iff]
theorem q123123 (p : List Cst) (x : Cst) (hp : bndP p) : F123123 (p, x) = some (decide (x.2.1 = [] ∧ ClsAt p x.2.2.1 ∧ (entAt p x.2.2.2).1 = 3 ∧ TxtAt p (entAt p x.2.2.2).2.2.2 Tok), p, x) := by
 obtain ⟨x0, x1, x2, x3⟩ := x
 simp only [F123123]
 rw [bindO_e (q124 p x3 hp.1)]
 simp only [q125 p _ hp, q123126 p _ hp, bindO_s, cndO_d]
 by_cases h1 : x1 = [] <;> by_cases h2 : ClsAt p x2 <;> by_cases h3 : (entAt p x3).1 = 3 <;> simp [h1, h2, h3]
theorem q114123 (p : List Cst) (x : Cst) (hp : bndP p) : F114123 (p, x) = some (decide (x.2.1 = [] ∧ ClsAt p x.2.2.1 ∧ (entAt p x.2.2.2).1 = 3 ∧ TxtAt p (entAt p x.2.2.2).2.2.2 Dsc), p, x) := by
 obtain ⟨x0, x1, x2, x3⟩ := x
 simp only [F114123]
 rw [bindO_e (q124 p x3 hp.1)]
 simp only [q125 p _ hp, q114126 p _ hp, bindO_s, cndO_d]
 by_cases h1 : x1 = [] <;> by_cases h2 : ClsAt p x2 <;> by_cases h3 : (entAt p x3).1 = 3 <;> simp [h1, h2, h3]
theorem q52 (p : List Cst) (x : Cst) (hp : bndP p) (hx : x.2.1.length ≤ 1048576) : F52 (p, x) = some (decide (EntOk p x)) := by
 obtain ⟨x0, x1, x2, x3⟩ := x
 simp only at hx
 simp only [F52, q123123 p _ hp, q114123 p _ hp, q49126 p _ hp, q122126 p _ hp, n48 _ hx, n121 _ hx, bindO_s, cndO_d]
 unfold EntOk
 simp only
 by_cases h1 : x0 = 1
 ·by_cases h2 : x2 = 0
  ·by_cases h3 : x3 = 0
   ·by_cases h4 : Nm x1
    ·simp [h1, h2, h3, h4]
    ·simp [h1, h2, h3, h4]
   ·simp [h1, h2, h3]
  ·simp [h1, h2]
 ·by_cases h2 : x0 = 2
  ·by_cases h3 : x1 = []
   ·by_cases h4 : x3 = 0 <;> simp [h2, h3, h4]
   ·simp [h2, h3]
  ·by_cases h3 : x0 = 3
   ·by_cases h4 : x1 = []
    ·by_cases h5 : TxtAt p x2 Nm <;> simp [h3, h4, h5]
    ·simp [h3, h4]
   ·by_cases h4 : x0 = 4
    ·simp [h4]
    ·by_cases h5 : x0 = 5
     ·simp [h5]
     ·by_cases h6 : x0 = 6
      ·simp [h6]
      ·simp [h1, h2, h3, h4, h5, h6]
theorem q53 (p : List Cst) (i : Nat) (hp : bndP p) (hi : i < p.length) : F53 (p, (i : Int)) = some (decide (EntOk p p[i])) := by
 have h0 : (0 : Int) ≤ i := by omega
 have hw : IntKind.wrap .i64 ((i : Int) + 1) = (i : Int) + 1 := by have := hp.1; exact wI (by omega) (by omega)
 have hx : p[i].2.1.length ≤ 1048576 := hp.2 _ (List.getElem_mem hi)
 have he := entAt_get hi
 simp only [F53, h0, decide_true, grdO_t, Int.toNat_natCast, hw]
 rw [atO_get hi]
 simp only [q130 p _ hp, q131 p _ hp, q132 p _ hp, q133 p _ _ hp, q107, he, n127 _ hx, n128 _ hx, n129 _ hx, n127 _ (txt_len hp _), n128 _ (txt_len hp _), n129 _ (txt_len hp _), bindO_s, cndO_n, cndO_d]
 generalize hxe : p[i] = x at he
 obtain ⟨x0, x1, x2, x3⟩ := x
 rw [hxe] at hx
 simp only at hx ⊢
 by_cases e1 : x0 = 1
 ·subst e1
  by_cases h2 : x2 = 0 <;> by_cases h3 : x3 = 0 <;> by_cases h4 : Nm x1 <;> by_cases h5 : Tok x1 <;> simp only [h2, h3, h4, h5, if_true, if_false] <;> exact sd (by unfold EntOk; simp [*, Typed])
 rw [if_neg e1]
 by_cases e2 : x0 = 2
 ·have hc : clsN p ((i : Int) + 1) = [] ↔ ¬ TxtAt p x2 Nm := by
   rw [← Classical.not_not (a := clsN p ((i : Int) + 1) = []), not_congr]
   show clsN p ((i : Int) + 1) ≠ [] ↔ _
   rw [clsN_ne]; unfold ClsAt; rw [he]; simp [e2]
  subst e2
  by_cases h3 : x1 = [] <;> by_cases h4 : x3 = 0 <;> by_cases h5 : TxtAt p x2 Nm <;> simp only [h3, h4, if_true, if_false] <;> exact sd (by unfold EntOk; simp [*])
 rw [if_neg e2]
 by_cases e3 : x0 = 3
 ·have h6 : Nm (txt p x2) ↔ TxtAt p x2 Nm := txt_at not_nm_nil
  have h7 : Tok (txt p x3) ∨ Dsc (txt p x3) ↔ TxtAt p x3 Typed := txt_at (Q := Typed) not_typed_nil
  subst e3
  by_cases h3 : x1 = [] <;> by_cases h4 : Nm (txt p x2) <;> by_cases h5 : Tok (txt p x3) <;> by_cases h8 : Dsc (txt p x3) <;> simp only [h3, h4, h5, h8, if_true, if_false] <;> exact sd (by unfold EntOk; rw [← h6, ← h7]; clear h6 h7 he hxe; simp [*])
 rw [if_neg e3]
 have hc : clsN p x2 = [] ↔ ¬ ClsAt p x2 := by
  rw [← Classical.not_not (a := clsN p x2 = []), not_congr]
  exact clsN_ne
 by_cases e4 : 4 ≤ x0 ∧ x0 ≤ 6
 ·rw [if_pos e4]
  by_cases h3 : x1 = []
  ·rw [if_pos h3]
   by_cases h4 : clsN p x2 = []
   ·rw [if_pos h4, bindE_r]
    have := hc.1 h4
    exact sd (by unfold EntOk; simp [*])
   ·rw [if_neg h4]
    have hcl : ClsAt p x2 := Classical.byContradiction fun h => h4 (hc.2 h)
    by_cases h5 : (entAt p x3).1 = 3
    ·rw [if_pos h5, bindE_l]
     simp only [n128 _ (txt_len hp _), n129 _ (txt_len hp _), bindO_s]
     have h6 : Tok (txt p (entAt p x3).2.2.2) ↔ TxtAt p (entAt p x3).2.2.2 Tok := txt_at not_tok_nil
     have h7 : Dsc (txt p (entAt p x3).2.2.2) ↔ TxtAt p (entAt p x3).2.2.2 Dsc := txt_at not_dsc_nil
     by_cases h8 : x0 = 4
     ·rw [if_pos h8]
      exact sd (by unfold EntOk; rw [decide_eq_true_iff, h6]; simp [*])
     ·rw [if_neg h8]
      have h9 : x0 = 5 ∨ x0 = 6 := by omega
      exact sd (by unfold EntOk; rw [decide_eq_true_iff, h7]; simp [*])
    ·rw [if_neg h5, bindE_r]
     exact sd (by unfold EntOk; simp [*])
  ·rw [if_neg h3, bindE_r]
   exact sd (by unfold EntOk; simp [*])
 ·rw [if_neg e4, bindE_r]
  have h8 : ¬ x0 = 4 := by omega
  have h9 : ¬ x0 = 5 := by omega
  have h10 : ¬ x0 = 6 := by omega
  exact sd (by unfold EntOk; simp [*])
theorem q15 (p : List Cst) (hp : bndP p) (h60 : p.length ≤ 60) : F15 p = some (poolC p p.length 0) := by
 simp only [F15, cndO_d, cndO_n]
 have h61 : ¬ (60 : Int) < p.length := by omega
 suffices h : ∀ (m i : Nat), i + m = p.length → ∀ k : List Cst → Option Int, k p = some 0 → bindE (whileO (fun (x : List Cst × Int) =>
   bindE (if x.2 < (x.1.length : Int) then if x.2 < 60 then some (Sum.inl (x.1, x.2)) else some (Sum.inr (Sum.inr (Sum.inl x.1))) else some (Sum.inr (Sum.inr (Sum.inl x.1)))) fun (pool2, i1) =>
   bindO (F53 (pool2, i1)) fun y =>
   cndO y (some (Sum.inl (pool2, IntKind.wrap .i64 (i1 + 1)))) (some (Sum.inr (Sum.inr (IntKind.wrap .i64 (i1 + 1)))))) (p, (i : Int))) k = some (poolC p m i) by
  refine h p.length 0 (by omega) _ ?_
  rw [if_neg h61]
 intro m
 induction m with
 | zero =>
  intro i hi k hk
  have h1 : ¬ (i : Int) < p.length := by omega
  rw [while_end (y := .inl p) (by simp only [h1, if_false, bindE_r]), bindE_l, hk]
  rfl
 | succ m ih =>
  intro i hi k hk
  have h1 : (i : Int) < p.length := by omega
  have h2 : (i : Int) < 60 := by omega
  have hlt : i < p.length := by omega
  unfold poolC
  rw [dif_pos hlt]
  by_cases he : EntOk p p[i]
  ·rw [if_pos he, ← ih (i + 1) (by omega) k hk, while_on]
   simp only [h1, h2, if_true, bindE_l, q53 p i hp hlt, bindO_s, he, decide_true, cndO_t]
   rw [wI (by omega) (by omega)]
   rfl
  ·rw [if_neg he, while_end (y := .inr ((i : Int) + 1)), bindE_r]
   simp only [h1, h2, if_true, bindE_l, q53 p i hp hlt, bindO_s, he, decide_false, cndO_f]
   rw [wI (by omega) (by omega)]
theorem q14 (p : List Cst) (hp : bndP p) (h60 : p.length ≤ 60) : F14 p = some (poolC p p.length 0) := by
 simp only [F14, cndO_d, cndO_n]
 suffices h : ∀ (m i : Nat), i + m = p.length → bindE (whileO (fun (x : List Cst × List Cst × Int × Int) =>
   if x.2.2.2 < x.2.2.1 then
    grdO (decide ((0 : Int) ≤ x.2.2.2)) (atO x.2.1 (Int.toNat x.2.2.2) fun y => if x.2.2.2 = 60 then some (Sum.inr (Sum.inr (61 : Int))) else
     bindO (F52 (x.1, y.1, y.2.1, y.2.2.1, y.2.2.2)) fun z =>
     cndO z (some (Sum.inl (x.1, x.2.1, x.2.2.1, IntKind.wrap .i64 (x.2.2.2 + 1)))) (some (Sum.inr (Sum.inr (IntKind.wrap .i64 (x.2.2.2 + 1))))))
   else some (Sum.inr (Sum.inl ()))) (p, p, (p.length : Int), (i : Int))) (fun _ : Unit => some (0 : Int)) = some (poolC p m i) by
  exact h p.length 0 (by omega)
 intro m
 induction m with
 | zero =>
  intro i hi
  have h1 : ¬ (i : Int) < p.length := by omega
  rw [while_end (y := .inl ()) (by simp only [h1, if_false]), bindE_l]
  rfl
 | succ m ih =>
  intro i hi
  have h1 : (i : Int) < p.length := by omega
  have h0 : (0 : Int) ≤ i := by omega
  have h2 : ¬ (i : Int) = 60 := by omega
  have hlt : i < p.length := by omega
  have hq := q52 p p[i] hp (hp.2 _ (List.getElem_mem hlt))
  unfold poolC
  rw [dif_pos hlt]
  by_cases he : EntOk p p[i]
  ·rw [if_pos he, ← ih (i + 1) (by omega), while_on]
   simp (discharger := assumption) only [h1, h2, h0, if_true, if_false, decide_true, grdO_t, Int.toNat_natCast, atO_get, hq, bindO_s, he, cndO_t]
   rw [wI (by omega) (by omega)]
   rfl
  ·rw [if_neg he, while_end (y := .inr ((i : Int) + 1)), bindE_r]
   simp (discharger := assumption) only [h1, h2, h0, if_true, if_false, decide_true, grdO_t, Int.toNat_natCast, atO_get, hq, bindO_s, he, decide_false, cndO_f]
   rw [wI (by omega) (by omega)]
end Go.Proofs.YtdpapeledldifaaGreat
end
section
namespace Go.TM
open Go.AM
section
variable {α X Y R S : Type}
theorem atO_gd {l : List α} {n : Nat} {k : α → Option R} (d : α) (h : n < l.length) : atO l n k = k (l.getD n d) := by
 rw [atO_get h, List.getD_eq_getElem?_getD, List.getElem?_eq_getElem h]; rfl
theorem ask_or {f : X → Option (X ⊕ (Y ⊕ R))} (F : Option R → Option S) (mk : Nat → X) (fin : Y) (no : R) (n : Nat) (q : Nat → Prop) {x0 : X} {k : Y → Option R} {P : Prop} {A B : Option S} (hx : x0 = mk 0)
  (hend : f (mk n) = some (.inr (.inl fin)))
  (hstep : ∀ i, i < n → (q i ∧ f (mk i) = some (.inl (mk (i + 1)))) ∨ (¬ q i ∧ f (mk i) = some (.inr (.inr no))))
  (hP : P ↔ ∀ i, i < n → q i) (hA : F (k fin) = A) (hB : F (some no) = B) :
  (P ∧ F (bindE (whileO f x0) k) = A) ∨ (¬ P ∧ F (bindE (whileO f x0) k) = B) := by
 have key : ∀ r, ((∀ i, i < n → q i) → k fin = r) → (¬ (∀ i, i < n → q i) → some no = r) → bindE (whileO f x0) k = r := fun r h1 h2 =>
  askI_loop mk fin no n q hx hend (fun i h hq => (hstep i h).elim (fun h => h.2) fun h => absurd hq h.1) (fun i h hq => (hstep i h).elim (fun h => absurd h.1 hq) fun h => h.2) h1 h2
 by_cases h : ∀ i, i < n → q i
 ·exact .inl ⟨hP.2 h, by rw [key (k fin) (fun _ => rfl) (fun h' => absurd h h'), hA]⟩
 ·exact .inr ⟨fun hp => h (hP.1 hp), by rw [key (some no) (fun h' => absurd h' h) (fun _ => rfl), hB]⟩
theorem ask_r {f : X → Option (X ⊕ (Y ⊕ R))} (mk : Nat → X) (fin : Y) (no : R) (n : Nat) (q : Nat → Prop) {x0 : X} {k : Y → Option R} {r : Option R} (hx : x0 = mk 0)
  (hend : f (mk n) = some (.inr (.inl fin)))
  (hstep : ∀ i, i < n → (q i ∧ f (mk i) = some (.inl (mk (i + 1)))) ∨ (¬ q i ∧ f (mk i) = some (.inr (.inr no))))
  (hk : (∀ i, i < n → q i) → k fin = r) (hno : ¬ (∀ i, i < n → q i) → some no = r) : bindE (whileO f x0) k = r :=
 askI_loop mk fin no n q hx hend (fun i h hq => (hstep i h).elim (fun h => h.2) fun h => absurd hq h.1) (fun i h hq => (hstep i h).elim (fun h => absurd h.1 hq) fun h => h.2) hk hno
theorem any_r {f : X → Option (X ⊕ (Y ⊕ R))} (mk : Nat → X) (fin : Y) (g : Nat → R) (n : Nat) (q : Nat → Prop) {x0 : X} {k : Y → Option R} (hx : x0 = mk 0)
  (hend : f (mk n) = some (.inr (.inl fin)))
  (hstep : ∀ i, i < n → (q i ∧ f (mk i) = some (.inr (.inr (g i)))) ∨ (¬ q i ∧ f (mk i) = some (.inl (mk (i + 1))))) :
  ((∀ i, i < n → ¬ q i) ∧ bindE (whileO f x0) k = k fin) ∨ (∃ i, i < n ∧ q i ∧ bindE (whileO f x0) k = some (g i)) := by
 have key : ∀ (m i : Nat), i + m = n → ((∀ j, i ≤ j → j < n → ¬ q j) ∧ whileO f (mk i) = some (.inl fin)) ∨ (∃ j, j < n ∧ q j ∧ whileO f (mk i) = some (.inr (g j))) := by
  intro m
  induction m with
  | zero =>
   intro i hi
   have : i = n := by omega
   subst this
   rw [whileO_eq, hend]
   exact .inl ⟨fun j h1 h2 => absurd h2 (by omega), rfl⟩
  | succ m ih =>
   intro i hi
   rw [whileO_eq]
   rcases hstep i (by omega) with ⟨hq, e⟩ | ⟨hq, e⟩
   ·rw [e]; exact .inr ⟨i, by omega, hq, rfl⟩
   ·rw [e]
    rcases ih (i + 1) (by omega) with ⟨h1, h2⟩ | h
    ·refine .inl ⟨fun j h3 h4 => ?_, h2⟩
     by_cases hj : j = i
     ·rw [hj]; exact hq
     ·exact h1 j (by omega) h4
    ·exact .inr h
 rw [hx]
 rcases key n 0 (by omega) with ⟨h1, h2⟩ | ⟨j, h1, h2, h3⟩
 ·exact .inl ⟨fun i hi => h1 i (by omega) hi, by rw [h2, bindE_l]⟩
 ·exact .inr ⟨j, h1, h2, by rw [h3, bindE_r]⟩
end
end Go.TM
end
section
namespace Go.Stow
theorem clsN_nil {p : List Ent} {i : Int} : clsN p i = [] ↔ ¬ ClsAt p i := by
 constructor
 ·intro h hc; exact clsN_ne.2 hc h
 ·intro h; exact Classical.byContradiction fun hn => h (clsN_ne.1 hn)
end Go.Stow
namespace Go.Proofs.YtdpapeledldifaaGreat
open Go Go.AM Go.TM Go.Stow
theorem has_fin1 (n : Fin 256) : decide (andI .i64 (n.val : Int) 1 = 0) = !decide (has (n.val : Int) 1) := by revert n; decide +kernel
theorem has_fin2 (n : Fin 256) : decide (andI .i64 (n.val : Int) 2 = 0) = !decide (has (n.val : Int) 2) := by revert n; decide +kernel
theorem has_fin4 (n : Fin 256) : decide (andI .i64 (n.val : Int) 4 = 0) = !decide (has (n.val : Int) 4) := by revert n; decide +kernel
theorem has_fin8 (n : Fin 256) : decide (andI .i64 (n.val : Int) 8 = 0) = !decide (has (n.val : Int) 8) := by revert n; decide +kernel
theorem and1 {f : Int} (h0 : 0 ≤ f) (h1 : f ≤ 255) : decide (andI .i64 f 1 = 0) = !decide (has f 1) := by
 have := has_fin1 ⟨f.toNat, by omega⟩; rwa [show ((f.toNat : Nat) : Int) = f by omega] at this
theorem and2 {f : Int} (h0 : 0 ≤ f) (h1 : f ≤ 255) : decide (andI .i64 f 2 = 0) = !decide (has f 2) := by
 have := has_fin2 ⟨f.toNat, by omega⟩; rwa [show ((f.toNat : Nat) : Int) = f by omega] at this
theorem and4 {f : Int} (h0 : 0 ≤ f) (h1 : f ≤ 255) : decide (andI .i64 f 4 = 0) = !decide (has f 4) := by
 have := has_fin4 ⟨f.toNat, by omega⟩; rwa [show ((f.toNat : Nat) : Int) = f by omega] at this
theorem and8 {f : Int} (h0 : 0 ≤ f) (h1 : f ≤ 255) : decide (andI .i64 f 8 = 0) = !decide (has f 8) := by
 have := has_fin8 ⟨f.toNat, by omega⟩; rwa [show ((f.toNat : Nat) : Int) = f by omega] at this
theorem and1p {f : Int} (h0 : 0 ≤ f) (h1 : f ≤ 255) : (andI .i64 f 1 = 0) = ¬ has f 1 := by
 have := and1 h0 h1; apply propext; rw [← decide_not, decide_eq_decide] at this; exact this
theorem and2p {f : Int} (h0 : 0 ≤ f) (h1 : f ≤ 255) : (andI .i64 f 2 = 0) = ¬ has f 2 := by
 have := and2 h0 h1; apply propext; rw [← decide_not, decide_eq_decide] at this; exact this
theorem and4p {f : Int} (h0 : 0 ≤ f) (h1 : f ≤ 255) : (andI .i64 f 4 = 0) = ¬ has f 4 := by
 have := and4 h0 h1; apply propext; rw [← decide_not, decide_eq_decide] at this; exact this
theorem q108 {f k : Int} (h0 : 0 ≤ f) (h1 : f ≤ 255) (hk : 1 ≤ k) : F108 (f, k) = some (decide (has f k)) := by
 have hk0 : ¬ k = 0 := by omega
 have hd : 0 ≤ f / k := Int.ediv_nonneg h0 (by omega)
 have hd2 : f / k ≤ f := Int.ediv_le_self k h0
 simp only [F108, hk0, decide_false, Bool.not_false, grdO_t]
 rw [Int.tdiv_eq_ediv_of_nonneg h0, wI (by omega) (by omega), Int.tmod_eq_emod_of_nonneg hd]
 rfl
theorem bindO_of {α R : Type} {r : Option α} {a : α} (h : r = some a) (k : α → Option R) : bindO r k = k a := by rw [h]; rfl
theorem q175 (c : Cls) (hp : bndP c.1) (hf : 0 ≤ c.2.1 ∧ c.2.1 ≤ 255) (hl : c.2.2.2.2.1.length ≤ 1048576) : F175 c = some (decide (HeadOk c)) := by
 obtain ⟨c0, c1, c2, c3, c4, c5, c6⟩ := c
 obtain ⟨hf0, hf1⟩ := hf
 simp only at hp hf0 hf1 hl
 have hH : HeadOk (c0, c1, c2, c3, c4, c5, c6) ↔ (ClsAt c0 c2 ∧ ClsAt c0 c3 ∧ clsN c0 c3 ≠ clsN c0 c2 ∧ (0 ≤ c1 ∧ c1 ≤ 7) ∧ (∀ i, i < c4.length → ClsAt c0 (c4.getD i 0) ∧ ∀ k, k < i → clsN c0 (c4.getD k 0) ≠ clsN c0 (c4.getD i 0)) ∧ ¬ (has c1 2 ∧ has c1 4) ∧ (has c1 1 → has c1 4 ∧ clsN c0 c3 = [79, 98, 106])) := Iff.rfl
 simp only [F175, q130 _ _ hp, bindO_s, q107, cndO_n, cndO_d]
 by_cases a1 : clsN c0 c2 = []
 ·rw [if_pos a1, bindE_r]
  exact sd (by rw [hH]; simp [clsN_nil.1 a1])
 rw [if_neg a1]
 have a1 := clsN_ne.1 a1
 by_cases a2 : clsN c0 c3 = []
 ·rw [if_pos a2, bindE_r]
  exact sd (by rw [hH]; simp [clsN_nil.1 a2])
 rw [if_neg a2]
 have a2 := clsN_ne.1 a2
 by_cases a3 : clsN c0 c3 = clsN c0 c2
 ·rw [if_pos a3, bindE_r]
  exact sd (by rw [hH]; simp [a3])
 rw [if_neg a3]
 by_cases a4 : 0 ≤ c1 ∧ c1 ≤ 7
 ·rw [if_pos a4, bindE_l]
  simp only
  refine ask_r (fun i => (clsN c0 c3, (i : Int), c0, c1, c2, c3, c4, c5, c6)) (clsN c0 c3, c0, c1, c2, c3, c4, c5, c6) false c4.length (fun i => ClsAt c0 (c4.getD i 0) ∧ ∀ k, k < i → clsN c0 (c4.getD k 0) ≠ clsN c0 (c4.getD i 0)) rfl ?_ ?_ ?_ ?_
  ·simp only [Int.lt_irrefl, if_false]
  ·intro i hi
   have h1 : (i : Int) < c4.length := by omega
   have h0 : (0 : Int) ≤ i := by omega
   simp only [h1, h0, if_true, decide_true, grdO_t, Int.toNat_natCast]
   rw [atO_gd 0 hi]
   simp only [q130 _ _ hp, bindO_s]
   by_cases b1 : clsN c0 (c4.getD i 0) = []
   ·rw [if_pos b1, bindE_r]
    exact .inr ⟨fun h => clsN_ne.2 h.1 b1, rfl⟩
   ·rw [if_neg b1]
    have b1 := clsN_ne.1 b1
    refine ask_or (F := (bindE · _)) (fun k => (clsN c0 c3, (i : Int), (k : Int), c0, c1, c2, c3, c4, c5, c6)) (clsN c0 c3, (i : Int), c0, c1, c2, c3, c4, c5, c6) (.inr (.inr (.inr false))) i (fun k => clsN c0 (c4.getD k 0) ≠ clsN c0 (c4.getD i 0)) rfl ?_ ?_ ?_ ?_ ?_
    ·simp only [Int.lt_irrefl, if_false]
    ·intro k hk
     have k1 : (k : Int) < i := by omega
     have k0 : (0 : Int) ≤ k := by omega
     have hkl : k < c4.length := by omega
     simp only [k1, k0, h0, if_true, decide_true, grdO_t, Int.toNat_natCast]
     rw [atO_gd 0 hkl, atO_gd 0 hi]
     simp only [atO_gd 0 hi, q130 _ _ hp, bindO_s, eq_self, decide_true, Bool.and_true, grdO_t, seqU_s]
     by_cases e : clsN c0 (c4.getD k 0) = clsN c0 (c4.getD i 0)
     ·rw [if_pos e]; exact .inr ⟨fun h => h e, rfl⟩
     ·rw [if_neg e, wI (by omega) (by omega)]; exact .inl ⟨e, rfl⟩
    ·exact ⟨fun h => h.2, fun h => ⟨b1, h⟩⟩
    ·simp only [bindE_l]
     rw [wI (by omega) (by omega)]
     rfl
    ·rfl
  ·intro hall
   have hH' : HeadOk (c0, c1, c2, c3, c4, c5, c6) ↔ (¬ (has c1 2 ∧ has c1 4) ∧ (has c1 1 → has c1 4 ∧ clsN c0 c3 = [79, 98, 106])) := by
    rw [hH]
    exact ⟨fun h => h.2.2.2.2.2, fun h => ⟨a1, a2, a3, a4, hall, h⟩⟩
   simp only [q108 hf0 hf1 (show (1 : Int) ≤ 2 by omega), q108 hf0 hf1 (show (1 : Int) ≤ 4 by omega), q108 hf0 hf1 (show (1 : Int) ≤ 1 by omega), bindO_s, cndO_d]
   by_cases b2 : has c1 2 <;> by_cases b4 : has c1 4 <;> by_cases b1 : has c1 1 <;> simp only [q108 hf0 hf1 (show (1 : Int) ≤ 4 by omega), q108 hf0 hf1 (show (1 : Int) ≤ 1 by omega), bindO_s, cndO_d, b1, b2, b4, if_true, if_false, bindE_l, bindE_r] <;> refine sd ?_ <;> rw [hH'] <;> simp [b1, b2, b4]
  ·intro hall
   exact sd (by rw [hH]; simp only [Bool.false_eq_true, false_iff]; exact fun h => hall h.2.2.2.2.1)
 ·rw [if_neg a4, bindE_r]
  exact sd (by rw [hH]; simp only [Bool.false_eq_true, false_iff]; exact fun h => a4 h.2.2.2.1)
theorem q162 (c : Cls) (i : Int) (hp : bndP c.1) : F162 (c, i) = some (decide ((entAt c.1 i).1 = 2)) := by
 obtain ⟨c0, c1, c2, c3, c4, c5, c6⟩ := c
 simp only [F162]
 rw [bindO_e (q124 c0 i hp.1)]
theorem q111 (c : Cls) (i : Int) (hp : bndP c.1) : F111 (c, i) = some (nameI c.1 i) := by
 obtain ⟨c0, c1, c2, c3, c4, c5, c6⟩ := c
 simp only [F111]
 rw [bindO_e (q124 c0 i hp.1)]
 simp only
 rw [bindO_e (q124 c0 _ hp.1), cndO_d]
 unfold nameI
 simp only
 split <;> rfl
theorem q165 (c : Cls) (hf : 0 ≤ c.2.1 ∧ c.2.1 ≤ 255) : F165 c = some (decide (has c.2.1 1)) := by
 obtain ⟨c0, c1, c2, c3, c4, c5, c6⟩ := c
 obtain ⟨hf0, hf1⟩ := hf
 simp only at hf0 hf1
 simp only [F165, and1 hf0 hf1, Bool.not_not]
theorem q164 (c : Cls) (g i : Int) (hp : bndP c.1) : F164 (g, c, i) = some (decide (nameI c.1 g = nameI c.1 i), c, i) := by
 obtain ⟨c0, c1, c2, c3, c4, c5, c6⟩ := c
 simp only [F164, q111 _ _ hp, bindO_s, eq_self, decide_true, Bool.and_true, Bool.and_self, grdO_t, seqU_s]
theorem q165163 (c : Cls) (s : List Int) (i : Int) (hp : bndP c.1) (hl : s.length ≤ 1048576) : ∃ b, F165163 (s, c, i) = some (b, c, i) ∧ (b = false ↔ ∀ k, k < s.length → nameI c.1 (s.getD k 0) ≠ nameI c.1 i) := by
 obtain ⟨c0, c1, c2, c3, c4, c5, c6⟩ := c
 simp only [F165163, F165235]
 have key := any_r (f := (fun (x : List Int × Int × Int × Cls × Int) => cndO (decide (x.2.2.1 < x.2.1))
    (grdO (decide (0 ≤ x.2.2.1)) (atO x.1 (Int.toNat x.2.2.1) fun y => bindO (F164 (y, (x.2.2.2.1.1, x.2.2.2.1.2.1, x.2.2.2.1.2.2.1, x.2.2.2.1.2.2.2.1, x.2.2.2.1.2.2.2.2.1, x.2.2.2.1.2.2.2.2.2.1, x.2.2.2.1.2.2.2.2.2.2), x.2.2.2.2)) fun z =>
    cndO z.1 (some (.inr (.inr (x.2.2.1, z.2.1, z.2.2)))) (some (.inl (x.1, x.2.1, IntKind.wrap .i64 (x.2.2.1 + 1), z.2.1, z.2.2)))))
    (some (.inr (.inl ((x.2.2.2.1.1, x.2.2.2.1.2.1, x.2.2.2.1.2.2.1, x.2.2.2.1.2.2.2.1, x.2.2.2.1.2.2.2.2.1, x.2.2.2.1.2.2.2.2.2.1, x.2.2.2.1.2.2.2.2.2.2), x.2.2.2.2))))))
  (fun k => (s, (s.length : Int), (k : Int), (c0, c1, c2, c3, c4, c5, c6), i)) ((c0, c1, c2, c3, c4, c5, c6), i) (fun k => ((k : Int), (c0, c1, c2, c3, c4, c5, c6), i)) s.length (fun k => nameI c0 (s.getD k 0) = nameI c0 i) (x0 := (s, (s.length : Int), 0, (c0, c1, c2, c3, c4, c5, c6), i)) (k := fun x => some ((-1 : Int), x.1, x.2)) rfl ?_ ?_
 ·rcases key with ⟨h1, h2⟩ | ⟨k, h1, h2, h3⟩
  ·refine ⟨false, ?_, iff_of_true rfl h1⟩
   rw [bindO_of h2]
   rfl
  ·refine ⟨true, ?_, iff_of_false (by simp) fun h => h k h1 h2⟩
   rw [bindO_of h3]
   simp
 ·simp only [Int.lt_irrefl, decide_false, cndO_f]
 ·intro k hk
  have k1 : (k : Int) < s.length := by omega
  have k0 : (0 : Int) ≤ k := by omega
  simp only [k1, k0, decide_true, cndO_t, grdO_t, Int.toNat_natCast]
  rw [atO_gd 0 hk]
  have hq := q164 (c0, c1, c2, c3, c4, c5, c6) (s.getD k 0) i hp
  simp only at hq
  rw [hq]
  simp only [bindO_s, cndO_d]
  rw [wI (by omega) (by omega)]
  by_cases e : nameI c0 (s.getD k 0) = nameI c0 i
  ·rw [if_pos e]; exact .inl ⟨e, rfl⟩
  ·rw [if_neg e]; exact .inr ⟨e, rfl⟩
end Go.Proofs.YtdpapeledldifaaGreat
end
