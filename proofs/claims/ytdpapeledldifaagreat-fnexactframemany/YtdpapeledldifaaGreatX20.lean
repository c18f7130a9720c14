/- Part 21 of the proof that, for every class, FrameMany of the code and of the specification agree; no condition. -/
import Derived.Test.YtdpapeledldifaaGreatX19
set_option autoImplicit true
set_option relaxedAutoImplicit true
set_option linter.all false
section
namespace Go.Stow
theorem getD_take {α : Type} {l : List α} {i k : Nat} {d : α} (h : k < i) : (l.take i).getD k d = l.getD k d := by
 rw [List.getD_eq_getElem?_getD, List.getD_eq_getElem?_getD, List.getElem?_take, if_pos h]
end Go.Stow
namespace Go.Proofs.YtdpapeledldifaaGreat
open Go Go.AM Go.TM Go.Stow
theorem q83 (c : Cls) (hp : bndP c.1) (hf : 0 ≤ c.2.1 ∧ c.2.1 ≤ 255) (hl : c.2.2.2.2.1.length ≤ 1048576) (hok : PoolOk c.1) : F83 c = some (decide (HeadOk c)) := by
 obtain ⟨c0, c1, c2, c3, c4, c5, c6⟩ := c
 obtain ⟨hf0, hf1⟩ := hf
 simp only at hp hf0 hf1 hl hok
 have hH : HeadOk (c0, c1, c2, c3, c4, c5, c6) ↔ (ClsAt c0 c2 ∧ ClsAt c0 c3 ∧ clsN c0 c3 ≠ clsN c0 c2 ∧ (0 ≤ c1 ∧ c1 ≤ 7) ∧ (∀ i, i < c4.length → ClsAt c0 (c4.getD i 0) ∧ ∀ k, k < i → clsN c0 (c4.getD k 0) ≠ clsN c0 (c4.getD i 0)) ∧ ¬ (has c1 2 ∧ has c1 4) ∧ (has c1 1 → has c1 4 ∧ clsN c0 c3 = [79, 98, 106])) := Iff.rfl
 have z162 : ∀ i, F162 ((c0, c1, c2, c3, c4, c5, c6), i) = some (decide ((entAt c0 i).1 = 2)) := fun i => q162 (c0, c1, c2, c3, c4, c5, c6) i hp
 have z111 : ∀ i, F111 ((c0, c1, c2, c3, c4, c5, c6), i) = some (nameI c0 i) := fun i => q111 (c0, c1, c2, c3, c4, c5, c6) i hp
 simp only [F83, z162, z111, bindO_s, cndO_n, cndO_d, eq_self, decide_true, Bool.and_true, Bool.and_self, grdO_t, seqU_s]
 by_cases a1 : (entAt c0 c2).1 = 2
 ·rw [if_pos a1]
  have a1 := hok.cls.2 a1
  by_cases a2 : (entAt c0 c3).1 = 2
  ·rw [if_pos a2]
   have a2 := hok.cls.2 a2
   rw [nameI_cls a1, nameI_cls a2]
   by_cases a3 : clsN c0 c3 = clsN c0 c2
   ·rw [if_pos a3, bindE_r]
    exact sd (by rw [hH]; simp [a3])
   ·rw [if_neg a3, bindE_l]
    simp only
    refine ask_r (fun i => (c4, (c4.length : Int), (i : Int), c0, c1, c2, c3, c4, c5, c6)) (c0, c1, c2, c3, c4, c5, c6) false c4.length (fun i => (entAt c0 (c4.getD i 0)).1 = 2 ∧ ∀ k, k < i → nameI c0 (c4.getD k 0) ≠ nameI c0 (c4.getD i 0)) rfl ?_ ?_ ?_ ?_
    ·simp only [Int.lt_irrefl, if_false]
    ·intro i hi
     have h1 : (i : Int) < c4.length := by omega
     have h0 : (0 : Int) ≤ i := by omega
     have h2 : (i : Int) ≤ c4.length := by omega
     simp only [h1, h0, h2, if_true, decide_true, Bool.and_self, grdO_t, Int.toNat_natCast, List.drop_zero]
     rw [atO_gd 0 hi]
     simp only [z162, bindO_s, cndO_d, cndO_n]
     by_cases b1 : (entAt c0 (c4.getD i 0)).1 = 2
     ·rw [if_pos b1]
      obtain ⟨b, e, hb⟩ := q165163 (c0, c1, c2, c3, c4, c5, c6) (c4.take i) (c4.getD i 0) hp (by simp only [List.length_take]; omega)
      rw [e]
      simp only [bindO_s]
      have hbi : b = false ↔ ∀ k, k < i → nameI c0 (c4.getD k 0) ≠ nameI c0 (c4.getD i 0) := by
       rw [hb]
       simp only [List.length_take, Nat.min_eq_left (Nat.le_of_lt hi)]
       exact ⟨fun h k hk => by have := h k hk; rwa [getD_take hk] at this, fun h k hk => by rw [getD_take hk]; exact h k hk⟩
      cases b with
      | true =>
       exact .inr ⟨fun h => (by cases hbi.2 h.2), rfl⟩
      | false =>
       refine .inl ⟨⟨b1, hbi.1 rfl⟩, ?_⟩
       simp only [cndO_f, bindE_l]
       rw [wI (by omega) (by omega)]
       rfl
     ·rw [if_neg b1]
      exact .inr ⟨fun h => b1 h.1, rfl⟩
    ·intro hall
     have hall' : ∀ i, i < c4.length → ClsAt c0 (c4.getD i 0) ∧ ∀ k, k < i → clsN c0 (c4.getD k 0) ≠ clsN c0 (c4.getD i 0) := fun i hi =>
      ⟨hok.cls.2 (hall i hi).1, fun k hk => by
       have := (hall i hi).2 k hk
       rwa [nameI_cls (hok.cls.2 (hall i hi).1), nameI_cls (hok.cls.2 (hall k (by omega)).1)] at this⟩
     have hH' : HeadOk (c0, c1, c2, c3, c4, c5, c6) ↔ ((0 ≤ c1 ∧ c1 ≤ 7) ∧ ¬ (has c1 2 ∧ has c1 4) ∧ (has c1 1 → has c1 4 ∧ clsN c0 c3 = [79, 98, 106])) := by
      rw [hH]
      exact ⟨fun h => ⟨h.2.2.2.1, h.2.2.2.2.2⟩, fun h => ⟨a1, a2, a3, h.1, hall', h.2⟩⟩
     simp only [eq_self, decide_true, grdO_t, seqU_s, q89, bindO_s, and2p hf0 hf1, and4p hf0 hf1, q165 (c0, c1, c2, c3, c4, c5, c6) ⟨hf0, hf1⟩, z111, Bool.not_not, cndO_n, cndO_d, nameI_cls a2]
     by_cases b0 : 0 ≤ c1 ∧ c1 ≤ 7
     ·rw [if_pos b0]
      by_cases b2 : has c1 2 <;> by_cases b4 : has c1 4 <;> by_cases b1 : has c1 1 <;> simp only [b1, b2, b4, not_true, not_false_iff, if_true, if_false] <;> refine sd ?_ <;> rw [hH'] <;> simp [b0, b1, b2, b4]
     ·rw [if_neg b0]
      refine sd ?_
      rw [hH']
      simp [b0]
    ·intro hall
     refine sd ?_
     rw [hH]; simp only [Bool.false_eq_true, false_iff]
     refine fun h => hall fun i hi => ⟨(h.2.2.2.2.1 i hi).1.1, fun k hk => ?_⟩
     rw [nameI_cls (h.2.2.2.2.1 i hi).1, nameI_cls (h.2.2.2.2.1 k (by omega)).1]
     exact (h.2.2.2.2.1 i hi).2 k hk
  ·rw [if_neg a2, bindE_r]
   exact sd (by rw [hH]; simp only [Bool.false_eq_true, false_iff]; exact fun h => a2 h.2.1.1)
 ·rw [if_neg a1, bindE_r]
  exact sd (by rw [hH]; simp only [Bool.false_eq_true, false_iff]; exact fun h => a1 h.1.1)
theorem q176 (c : Cls) (hp : bndP c.1) (hf : 0 ≤ c.2.1 ∧ c.2.1 ≤ 255) (hl : c.2.2.2.2.2.1.length ≤ 1048576) : F176 c = some (decide (FldsOk c)) := by
 obtain ⟨c0, c1, c2, c3, c4, c5, c6⟩ := c
 obtain ⟨hf0, hf1⟩ := hf
 simp only at hp hf0 hf1 hl
 simp only [F176, cndO_d]
 refine ask_r (fun i => ((i : Int), c0, c1, c2, c3, c4, c5, c6)) () false c5.length (FldOk (c0, c1, c2, c3, c4, c5, c6)) rfl ?_ ?_ ?_ ?_
 ·simp only [Int.lt_irrefl, if_false]
 ·intro i hi
  have h1 : (i : Int) < c5.length := by omega
  have h0 : (0 : Int) ≤ i := by omega
  simp only [h1, h0, if_true, decide_true, grdO_t, Int.toNat_natCast]
  rw [atO_gd (0, 0, 0) hi]
  have hF : FldOk (c0, c1, c2, c3, c4, c5, c6) i ↔ (TxtAt c0 (c5.getD i (0, 0, 0)).2.1 Nm ∧ TxtAt c0 (c5.getD i (0, 0, 0)).2.2 Tok ∧ (0 ≤ (c5.getD i (0, 0, 0)).1 ∧ (c5.getD i (0, 0, 0)).1 ≤ 3) ∧ (has c1 1 → (c5.getD i (0, 0, 0)).1 = 1) ∧ ∀ k, k < i → txt c0 (c5.getD k (0, 0, 0)).2.1 ≠ txt c0 (c5.getD i (0, 0, 0)).2.1) := Iff.rfl
  rw [hF]
  generalize c5.getD i (0, 0, 0) = x
  simp only [q131 _ _ hp, n127 _ (txt_len hp _), n128 _ (txt_len hp _), q107, bindO_s, cndO_n, cndO_d]
  have t1 : Nm (txt c0 x.2.1) ↔ TxtAt c0 x.2.1 Nm := txt_at not_nm_nil
  have t2 : Tok (txt c0 x.2.2) ↔ TxtAt c0 x.2.2 Tok := txt_at not_tok_nil
  by_cases b1 : Nm (txt c0 x.2.1)
  ·rw [if_pos b1]
   by_cases b2 : Tok (txt c0 x.2.2)
   ·rw [if_pos b2]
    by_cases b3 : 0 ≤ x.1 ∧ x.1 ≤ 3
    ·rw [if_pos b3, bindE_l]
     simp only [q108 hf0 hf1 (show (1 : Int) ≤ 1 by omega), bindO_s, cndO_d]
     by_cases b4 : has c1 1 → x.1 = 1
     ·rw [show (if has c1 1 then if x.1 = 1 then some (Sum.inl ((i : Int), (c0, c1, c2, c3, c4, c5, c6), x.1, x.2.1, x.2.2)) else some (Sum.inr (Sum.inr (Sum.inr (Sum.inr false)))) else some (Sum.inl ((i : Int), (c0, c1, c2, c3, c4, c5, c6), x.1, x.2.1, x.2.2)) : Option ((Int × Cls × Int × Int × Int) ⊕ ((Int × Cls) ⊕ ((Int × Cls) ⊕ (Unit ⊕ Bool))))) = some (Sum.inl ((i : Int), (c0, c1, c2, c3, c4, c5, c6), x.1, x.2.1, x.2.2)) by
       by_cases g : has c1 1
       ·rw [if_pos g, if_pos (b4 g)]
       ·rw [if_neg g], bindE_l]
      simp only
      refine ask_or (F := (bindE · _)) (fun k => ((i : Int), (k : Int), (c0, c1, c2, c3, c4, c5, c6), x.1, x.2.1, x.2.2)) ((i : Int), c0, c1, c2, c3, c4, c5, c6) (.inr (.inr (.inr false))) i (fun k => txt c0 (c5.getD k (0, 0, 0)).2.1 ≠ txt c0 x.2.1) rfl ?_ ?_ ?_ ?_ ?_
      ·simp only [Int.lt_irrefl, if_false]
      ·intro k hk
       have k1 : (k : Int) < i := by omega
       have k0 : (0 : Int) ≤ k := by omega
       have hkl : k < c5.length := by omega
       simp only [k1, k0, if_true, decide_true, grdO_t, Int.toNat_natCast]
       rw [atO_gd (0, 0, 0) hkl]
       simp only [q131 _ _ hp, bindO_s, eq_self, decide_true, grdO_t, seqU_s]
       by_cases e : txt c0 (c5.getD k (0, 0, 0)).2.1 = txt c0 x.2.1
       ·rw [if_pos e]; exact .inr ⟨fun h => h e, rfl⟩
       ·rw [if_neg e, wI (by omega) (by omega)]; exact .inl ⟨e, rfl⟩
      ·exact ⟨fun h => h.2.2.2.2, fun h => ⟨t1.1 b1, t2.1 b2, b3, b4, h⟩⟩
      ·simp only [bindE_l]
       rw [wI (by omega) (by omega)]
       rfl
      ·rfl
     ·have g : has c1 1 := Classical.byContradiction fun h => b4 fun h' => absurd h' h
      have g2 : ¬ x.1 = 1 := fun h => b4 fun _ => h
      rw [if_pos g, if_neg g2]
      exact .inr ⟨fun h => g2 (h.2.2.2.1 g), rfl⟩
    ·rw [if_neg b3]
     exact .inr ⟨fun h => b3 h.2.2.1, rfl⟩
   ·rw [if_neg b2]
    exact .inr ⟨fun h => b2 (t2.2 h.2.1), rfl⟩
  ·rw [if_neg b1]
   exact .inr ⟨fun h => b1 (t1.2 h.1), rfl⟩
 ·intro hall
  exact sd (iff_of_true rfl hall)
 ·intro hall
  exact sd (iff_of_false (by simp) hall)
end Go.Proofs.YtdpapeledldifaaGreat
end
section
namespace Go.Stow
def FldOkI (c : ClsP) (i : Nat) : Prop :=
 let f := c.2.2.2.2.2.1.getD i (0, 0, 0)
 TxtAt c.1 f.2.1 Nm ∧ TxtAt c.1 f.2.2 Tok ∧ (0 ≤ f.1 ∧ f.1 ≤ 3) ∧ (has c.2.1 1 → f.1 = 1) ∧ ∀ k, k < i → nameI c.1 (c.2.2.2.2.2.1.getD k (0, 0, 0)).2.1 ≠ nameI c.1 f.2.1
noncomputable instance (c : ClsP) (i : Nat) : Decidable (FldOkI c i) := Classical.propDecidable _
theorem flds_iff (c : ClsP) : (∀ i, i < c.2.2.2.2.2.1.length → FldOkI c i) ↔ FldsOk c := by
 constructor
 ·intro h i hi
  obtain ⟨h1, h2, h3, h4, h5⟩ := h i hi
  refine ⟨h1, h2, h3, h4, fun k hk => ?_⟩
  have hk' := h k (by omega)
  have := h5 k hk
  rwa [nameI_txt h1.1, nameI_txt hk'.1.1] at this
 ·intro h i hi
  obtain ⟨h1, h2, h3, h4, h5⟩ := h i hi
  refine ⟨h1, h2, h3, h4, fun k hk => ?_⟩
  have hk' := h k (by omega)
  have := h5 k hk
  rwa [nameI_txt h1.1, nameI_txt hk'.1.1]
def MthOkI (c : ClsP) (i : Nat) : Prop :=
 let m := c.2.2.2.2.2.2.getD i mth0
 TxtAt c.1 m.2.1 Nm ∧ TxtAt c.1 m.2.2.1 Dsc ∧ FlagsOk c m ∧
 ∀ k, k < i → ¬ (nameI c.1 (c.2.2.2.2.2.2.getD k mth0).2.1 = nameI c.1 m.2.1 ∧ nameI c.1 (c.2.2.2.2.2.2.getD k mth0).2.2.1 = nameI c.1 m.2.2.1)
noncomputable instance (c : ClsP) (i : Nat) : Decidable (MthOkI c i) := Classical.propDecidable _
theorem mths_iff (c : ClsP) : (∀ i, i < c.2.2.2.2.2.2.length → MthOkI c i) ↔ MthsOk c := by
 constructor
 ·intro h i hi
  obtain ⟨h1, h2, h3, h5⟩ := h i hi
  refine ⟨h1, h2, h3, fun k hk => ?_⟩
  have hk' := h k (by omega)
  have := h5 k hk
  rwa [nameI_txt h1.1, nameI_txt hk'.1.1, nameI_txt h2.1, nameI_txt hk'.2.1.1] at this
 ·intro h i hi
  obtain ⟨h1, h2, h3, h5⟩ := h i hi
  refine ⟨h1, h2, h3, fun k hk => ?_⟩
  have hk' := h k (by omega)
  have := h5 k hk
  rwa [nameI_txt h1.1, nameI_txt hk'.1.1, nameI_txt h2.1, nameI_txt hk'.2.1.1]
end Go.Stow
namespace Go.Proofs.YtdpapeledldifaaGreat
open Go Go.AM Go.TM Go.Stow
theorem q167 (c : Cls) (g f : Fld) (hp : bndP c.1) : F167 (g, c, f) = some (decide (nameI c.1 g.2.1 = nameI c.1 f.2.1), c, f) := by
 obtain ⟨c0, c1, c2, c3, c4, c5, c6⟩ := c
 obtain ⟨g0, g1, g2⟩ := g
 obtain ⟨f0, f1, f2⟩ := f
 have z111 : ∀ i, F111 ((c0, c1, c2, c3, c4, c5, c6), i) = some (nameI c0 i) := fun i => q111 (c0, c1, c2, c3, c4, c5, c6) i hp
 simp only [F167, z111, bindO_s, eq_self, decide_true, Bool.and_true, Bool.and_self, grdO_t, seqU_s]
theorem q168166 (c : Cls) (s : List Fld) (f : Fld) (hp : bndP c.1) (hl : s.length ≤ 1048576) : ∃ b, F168166 (s, c, f) = some (b, c, f) ∧ (b = false ↔ ∀ k, k < s.length → nameI c.1 (s.getD k (0, 0, 0)).2.1 ≠ nameI c.1 f.2.1) := by
 obtain ⟨c0, c1, c2, c3, c4, c5, c6⟩ := c
 obtain ⟨f0, f1, f2⟩ := f
 simp only [F168166, F168236]
 have key := any_r (f := (fun (x : List Fld × Int × Int × Cls × Fld) => cndO (decide (x.2.2.1 < x.2.1))
    (grdO (decide (0 ≤ x.2.2.1)) (atO x.1 (Int.toNat x.2.2.1) fun y => bindO (F167 ((y.1, y.2.1, y.2.2), (x.2.2.2.1.1, x.2.2.2.1.2.1, x.2.2.2.1.2.2.1, x.2.2.2.1.2.2.2.1, x.2.2.2.1.2.2.2.2.1, x.2.2.2.1.2.2.2.2.2.1, x.2.2.2.1.2.2.2.2.2.2), x.2.2.2.2.1, x.2.2.2.2.2.1, x.2.2.2.2.2.2)) fun z =>
    cndO z.1 (some (.inr (.inr (x.2.2.1, z.2.1, z.2.2)))) (some (.inl (x.1, x.2.1, IntKind.wrap .i64 (x.2.2.1 + 1), z.2.1, z.2.2)))))
    (some (.inr (.inl ((x.2.2.2.1.1, x.2.2.2.1.2.1, x.2.2.2.1.2.2.1, x.2.2.2.1.2.2.2.1, x.2.2.2.1.2.2.2.2.1, x.2.2.2.1.2.2.2.2.2.1, x.2.2.2.1.2.2.2.2.2.2), x.2.2.2.2.1, x.2.2.2.2.2.1, x.2.2.2.2.2.2))))))
  (fun k => (s, (s.length : Int), (k : Int), (c0, c1, c2, c3, c4, c5, c6), f0, f1, f2)) ((c0, c1, c2, c3, c4, c5, c6), f0, f1, f2) (fun k => ((k : Int), (c0, c1, c2, c3, c4, c5, c6), f0, f1, f2)) s.length (fun k => nameI c0 (s.getD k (0, 0, 0)).2.1 = nameI c0 f1) (x0 := (s, (s.length : Int), 0, (c0, c1, c2, c3, c4, c5, c6), f0, f1, f2)) (k := fun x => some ((-1 : Int), x.1, x.2)) rfl ?_ ?_
 ·rcases key with ⟨h1, h2⟩ | ⟨k, h1, h2, h3⟩
  ·refine ⟨false, ?_, iff_of_true rfl h1⟩
   rw [bindO_of h2]
   rfl
  ·refine ⟨true, ?_, iff_of_false (by simp) fun h => h k h1 h2⟩
   rw [bindO_of h3]
   simp
 ·simp only [Int.lt_irrefl, decide_false, cndO_f]
 ·intro k hk
  have k1 : (k : Int) < s.length := by omega
  have k0 : (0 : Int) ≤ k := by omega
  simp only [k1, k0, decide_true, cndO_t, grdO_t, Int.toNat_natCast]
  rw [atO_gd (0, 0, 0) hk]
  have hq := q167 (c0, c1, c2, c3, c4, c5, c6) (s.getD k (0, 0, 0)) (f0, f1, f2) hp
  simp only at hq
  refine (show _ = _ ∧ _ ∨ _ from ?_)
  rw [hq]
  simp only [bindO_s, cndO_d]
  rw [wI (by omega) (by omega)]
  by_cases e : nameI c0 (s.getD k (0, 0, 0)).2.1 = nameI c0 f1
  ·rw [if_pos e]; exact .inl ⟨e, rfl⟩
  ·rw [if_neg e]; exact .inr ⟨e, rfl⟩
theorem q84 (c : Cls) (i : Nat) (hp : bndP c.1) (hf : 0 ≤ c.2.1 ∧ c.2.1 ≤ 255) (hl : c.2.2.2.2.2.1.length ≤ 1048576) (hi : i < c.2.2.2.2.2.1.length) : F84 (c, (i : Int)) = some (decide (FldOkI c i)) := by
 obtain ⟨c0, c1, c2, c3, c4, c5, c6⟩ := c
 obtain ⟨hf0, hf1⟩ := hf
 simp only at hp hf0 hf1 hl hi
 have h0 : (0 : Int) ≤ i := by omega
 have h2 : (i : Int) ≤ c5.length := by omega
 have hF : FldOkI (c0, c1, c2, c3, c4, c5, c6) i ↔ (TxtAt c0 (c5.getD i (0, 0, 0)).2.1 Nm ∧ TxtAt c0 (c5.getD i (0, 0, 0)).2.2 Tok ∧ (0 ≤ (c5.getD i (0, 0, 0)).1 ∧ (c5.getD i (0, 0, 0)).1 ≤ 3) ∧ (has c1 1 → (c5.getD i (0, 0, 0)).1 = 1) ∧ ∀ k, k < i → nameI c0 (c5.getD k (0, 0, 0)).2.1 ≠ nameI c0 (c5.getD i (0, 0, 0)).2.1) := Iff.rfl
 simp only [F84, h0, h2, decide_true, Bool.and_self, grdO_t, Int.toNat_natCast]
 rw [atO_gd (0, 0, 0) hi]
 generalize c5.getD i (0, 0, 0) = x at hF ⊢
 simp only [q49126 _ _ hp, q123126 _ _ hp, q89, q165 (c0, c1, c2, c3, c4, c5, c6) ⟨hf0, hf1⟩, bindO_s, cndO_n, cndO_d]
 by_cases b1 : TxtAt c0 x.2.1 Nm
 ·rw [if_pos b1]
  by_cases b2 : TxtAt c0 x.2.2 Tok
  ·rw [if_pos b2]
   by_cases b3 : 0 ≤ x.1 ∧ x.1 ≤ 3
   ·rw [if_pos b3]
    by_cases b4 : has c1 1 → x.1 = 1
    ·rw [show (if has c1 1 then if x.1 = 1 then some (Sum.inl ((i : Int), (c0, c1, c2, c3, c4, c5, c6), x.1, x.2.1, x.2.2)) else some (Sum.inr false) else some (Sum.inl ((i : Int), (c0, c1, c2, c3, c4, c5, c6), x.1, x.2.1, x.2.2)) : Option ((Int × Cls × Int × Int × Int) ⊕ Bool)) = some (Sum.inl ((i : Int), (c0, c1, c2, c3, c4, c5, c6), x.1, x.2.1, x.2.2)) by
      by_cases g : has c1 1
      ·rw [if_pos g, if_pos (b4 g)]
      ·rw [if_neg g], bindE_l]
     obtain ⟨b, e, hb⟩ := q168166 (c0, c1, c2, c3, c4, c5, c6) (c5.take i) x hp (by simp only [List.length_take]; omega)
     obtain ⟨x0, x1, x2⟩ := x
     simp only [h0, h2, decide_true, Bool.and_self, grdO_t, Int.toNat_natCast, List.drop_zero]
     rw [e]
     simp only [bindO_s]
     have hbi : b = false ↔ ∀ k, k < i → nameI c0 (c5.getD k (0, 0, 0)).2.1 ≠ nameI c0 x1 := by
      rw [hb]
      simp only [List.length_take, Nat.min_eq_left (Nat.le_of_lt hi)]
      exact ⟨fun h k hk => by have := h k hk; rwa [getD_take hk] at this, fun h k hk => by rw [getD_take hk]; exact h k hk⟩
     refine sd ?_
     rw [hF]
     simp only [Bool.not_eq_true', hbi]
     exact ⟨fun h => ⟨b1, b2, b3, b4, h⟩, fun h => h.2.2.2.2⟩
    ·have g : has c1 1 := Classical.byContradiction fun h => b4 fun h' => absurd h' h
     have g2 : ¬ x.1 = 1 := fun h => b4 fun _ => h
     rw [if_pos g, if_neg g2, bindE_r]
     exact sd (by rw [hF]; exact iff_of_false (by simp) fun h => b4 h.2.2.2.1)
   ·rw [if_neg b3, bindE_r]
    exact sd (by rw [hF]; exact iff_of_false (by simp) fun h => b3 h.2.2.1)
  ·rw [if_neg b2, bindE_r]
   exact sd (by rw [hF]; exact iff_of_false (by simp) fun h => b2 h.2.1)
 ·rw [if_neg b1, bindE_r]
  exact sd (by rw [hF]; exact iff_of_false (by simp) fun h => b1 h.1)
theorem q244 (c : Cls) (m : Mth) (hp : bndP c.1) (hf : 0 ≤ c.2.1 ∧ c.2.1 ≤ 255) (hm : 0 ≤ m.1 ∧ m.1 ≤ 255) : F244 (c, m) = some (decide (FlagsOk c m)) := by
 obtain ⟨c0, c1, c2, c3, c4, c5, c6⟩ := c
 obtain ⟨m0, m1, m2, m3, m4, m5, m6, m7⟩ := m
 obtain ⟨hf0, hf1⟩ := hf
 obtain ⟨hm0, hm1⟩ := hm
 simp only at hp hf0 hf1 hm0 hm1
 have hF : FlagsOk (c0, c1, c2, c3, c4, c5, c6) (m0, m1, m2, m3, m4, m5, m6, m7) ↔ ((0 ≤ m0 ∧ m0 ≤ 15) ∧ (txt c0 m1 = [98, 101, 103, 105, 110] → m0 = 1 ∧ txt c0 m2 = [40, 41, 86]) ∧ (has m0 8 → m0 = 8 ∧ has c1 4) ∧ (¬ has m0 8 → has c1 1 → m0 = 1)) := Iff.rfl
 simp only [F244, q131 _ _ hp, q107, bindO_s, cndO_n, cndO_d]
 by_cases b1 : 0 ≤ m0 ∧ m0 ≤ 15
 ·rw [if_pos b1]
  have e8 := q108 hm0 hm1 (show (1 : Int) ≤ 8 by omega)
  have e4 := q108 hf0 hf1 (show (1 : Int) ≤ 4 by omega)
  have e1 := q108 hf0 hf1 (show (1 : Int) ≤ 1 by omega)
  have go : (txt c0 m1 = [98, 101, 103, 105, 110] → m0 = 1 ∧ txt c0 m2 = [40, 41, 86]) → (if has m0 8 then if m0 = 8 then some (decide (has c1 4)) else some false else if has c1 1 then some (decide (m0 = 1)) else some true : Option Bool) = some (decide (FlagsOk (c0, c1, c2, c3, c4, c5, c6) (m0, m1, m2, m3, m4, m5, m6, m7))) := by
   intro b2
   by_cases b5 : has m0 8
   ·rw [if_pos b5]
    by_cases b8 : m0 = 8
    ·rw [if_pos b8]
     refine sd ?_
     rw [hF, decide_eq_true_iff]
     exact ⟨fun h => ⟨b1, b2, fun _ => ⟨b8, h⟩, fun h => absurd b5 h⟩, fun h => (h.2.2.1 b5).2⟩
    ·rw [if_neg b8]
     exact sd (by rw [hF]; exact iff_of_false (by simp) fun h => b8 (h.2.2.1 b5).1)
   ·rw [if_neg b5]
    by_cases b7 : has c1 1
    ·rw [if_pos b7]
     refine sd ?_
     rw [hF, decide_eq_true_iff]
     exact ⟨fun h => ⟨b1, b2, fun h' => absurd h' b5, fun _ _ => h⟩, fun h => h.2.2.2 b5 b7⟩
    ·rw [if_neg b7]
     exact sd (by rw [hF]; exact iff_of_true rfl ⟨b1, b2, fun h' => absurd h' b5, fun _ h => absurd h b7⟩)
  by_cases b2 : txt c0 m1 = [98, 101, 103, 105, 110]
  ·rw [if_pos b2]
   by_cases b3 : m0 = 1
   ·rw [if_pos b3]
    by_cases b4 : txt c0 m2 = [40, 41, 86]
    ·rw [if_pos b4, bindE_l]
     simp only [e8, e4, e1, bindO_s, cndO_d]
     exact go fun _ => ⟨b3, b4⟩
    ·rw [if_neg b4, bindE_r]
     exact sd (by rw [hF]; exact iff_of_false (by simp) fun h => b4 (h.2.1 b2).2)
   ·rw [if_neg b3, bindE_r]
    exact sd (by rw [hF]; exact iff_of_false (by simp) fun h => b3 (h.2.1 b2).1)
  ·rw [if_neg b2, bindE_l]
   simp only [e8, e4, e1, bindO_s, cndO_d]
   exact go fun h => absurd h b2
 ·rw [if_neg b1]
  exact sd (by rw [hF]; exact iff_of_false (by simp) fun h => b1 h.1)
theorem q177 (c : Cls) (hp : bndP c.1) (hf : 0 ≤ c.2.1 ∧ c.2.1 ≤ 255) (hl : c.2.2.2.2.2.2.length ≤ 1048576) (hm : ∀ m ∈ c.2.2.2.2.2.2, 0 ≤ m.1 ∧ m.1 ≤ 255) : F177 c = some (decide (MthsOk c)) := by
 obtain ⟨c0, c1, c2, c3, c4, c5, c6⟩ := c
 simp only at hp hl hm
 simp only [F177, cndO_d]
 refine ask_r (fun i => ((i : Int), c0, c1, c2, c3, c4, c5, c6)) () false c6.length (MthOk (c0, c1, c2, c3, c4, c5, c6)) rfl ?_ ?_ ?_ ?_
 ·simp only [Int.lt_irrefl, if_false]
 ·intro i hi
  have h1 : (i : Int) < c6.length := by omega
  have h0 : (0 : Int) ≤ i := by omega
  have hmi : 0 ≤ (c6.getD i mth0).1 ∧ (c6.getD i mth0).1 ≤ 255 := by
   rw [List.getD_eq_getElem?_getD, List.getElem?_eq_getElem hi]
   exact hm _ (List.getElem_mem hi)
  simp only [h1, h0, if_true, decide_true, grdO_t, Int.toNat_natCast]
  rw [atO_gd mth0 hi]
  have hF : MthOk (c0, c1, c2, c3, c4, c5, c6) i ↔ (TxtAt c0 (c6.getD i mth0).2.1 Nm ∧ TxtAt c0 (c6.getD i mth0).2.2.1 Dsc ∧ FlagsOk (c0, c1, c2, c3, c4, c5, c6) (c6.getD i mth0) ∧
   ∀ k, k < i → ¬ (txt c0 (c6.getD k mth0).2.1 = txt c0 (c6.getD i mth0).2.1 ∧ txt c0 (c6.getD k mth0).2.2.1 = txt c0 (c6.getD i mth0).2.2.1)) := Iff.rfl
  rw [hF]
  generalize c6.getD i mth0 = x at hmi
  have z244 : F244 ((c0, c1, c2, c3, c4, c5, c6), x.1, x.2.1, x.2.2.1, x.2.2.2.1, x.2.2.2.2.1, x.2.2.2.2.2.1, x.2.2.2.2.2.2.1, x.2.2.2.2.2.2.2) = some (decide (FlagsOk (c0, c1, c2, c3, c4, c5, c6) x)) := q244 (c0, c1, c2, c3, c4, c5, c6) x hp hf hmi
  simp only [q131 _ _ hp, n127 _ (txt_len hp _), n129 _ (txt_len hp _), z244, bindO_s, cndO_n, cndO_d]
  have t1 : Nm (txt c0 x.2.1) ↔ TxtAt c0 x.2.1 Nm := txt_at not_nm_nil
  have t2 : Dsc (txt c0 x.2.2.1) ↔ TxtAt c0 x.2.2.1 Dsc := txt_at not_dsc_nil
  by_cases b1 : Nm (txt c0 x.2.1)
  ·rw [if_pos b1]
   by_cases b2 : Dsc (txt c0 x.2.2.1)
   ·rw [if_pos b2]
    by_cases b3 : FlagsOk (c0, c1, c2, c3, c4, c5, c6) x
    ·rw [if_pos b3, bindE_l]
     simp only
     refine ask_or (F := (bindE · _)) (fun k => ((i : Int), (k : Int), (c0, c1, c2, c3, c4, c5, c6), x.1, x.2.1, x.2.2.1, x.2.2.2.1, x.2.2.2.2.1, x.2.2.2.2.2.1, x.2.2.2.2.2.2.1, x.2.2.2.2.2.2.2)) ((i : Int), c0, c1, c2, c3, c4, c5, c6) (.inr (.inr (.inr false))) i (fun k => ¬ (txt c0 (c6.getD k mth0).2.1 = txt c0 x.2.1 ∧ txt c0 (c6.getD k mth0).2.2.1 = txt c0 x.2.2.1)) rfl ?_ ?_ ?_ ?_ ?_
     ·simp only [Int.lt_irrefl, if_false]
     ·intro k hk
      have k1 : (k : Int) < i := by omega
      have k0 : (0 : Int) ≤ k := by omega
      have hkl : k < c6.length := by omega
      simp only [k1, k0, if_true, decide_true, grdO_t, Int.toNat_natCast]
      rw [atO_gd mth0 hkl]
      simp only [atO_gd mth0 hkl, q131 _ _ hp, bindO_s, eq_self, decide_true, grdO_t, seqU_s]
      by_cases e : txt c0 (c6.getD k mth0).2.1 = txt c0 x.2.1
      ·rw [if_pos e]
       by_cases e2 : txt c0 (c6.getD k mth0).2.2.1 = txt c0 x.2.2.1
       ·rw [if_pos e2, bindE_r]; exact .inr ⟨fun h => h ⟨e, e2⟩, rfl⟩
       ·rw [if_neg e2, bindE_l]
        simp only
        rw [wI (by omega) (by omega)]; exact .inl ⟨fun h => e2 h.2, rfl⟩
      ·rw [if_neg e, bindE_l]
       simp only
       rw [wI (by omega) (by omega)]; exact .inl ⟨fun h => e h.1, rfl⟩
     ·exact ⟨fun h => h.2.2.2, fun h => ⟨t1.1 b1, t2.1 b2, b3, h⟩⟩
     ·simp only [bindE_l]
      rw [wI (by omega) (by omega)]
      rfl
     ·rfl
    ·rw [if_neg b3]
     exact .inr ⟨fun h => b3 h.2.2.1, rfl⟩
   ·rw [if_neg b2]
    exact .inr ⟨fun h => b2 (t2.2 h.2.1), rfl⟩
  ·rw [if_neg b1]
   exact .inr ⟨fun h => b1 (t1.2 h.1), rfl⟩
 ·intro hall
  exact sd (iff_of_true rfl hall)
 ·intro hall
  exact sd (iff_of_false (by simp) hall)
end Go.Proofs.YtdpapeledldifaaGreat
end
section
namespace Go.TM
theorem bothO_self {R : Type} (a : Option R) : bothO a a = a := by unfold bothO; rw [if_pos rfl]
end Go.TM
namespace Go.Proofs.YtdpapeledldifaaGreat
open Go Go.AM Go.TM Go.Stow
theorem q169 (c : Cls) (g : Mth) (a b : List UInt8) (hp : bndP c.1) : F169 (g, c, a, b) = some (decide (nameI c.1 g.2.1 = a ∧ nameI c.1 g.2.2.1 = b), c, a, b) := by
 obtain ⟨c0, c1, c2, c3, c4, c5, c6⟩ := c
 obtain ⟨g0, g1, g2, g3, g4, g5, g6, g7⟩ := g
 have z111 : ∀ i, F111 ((c0, c1, c2, c3, c4, c5, c6), i) = some (nameI c0 i) := fun i => q111 (c0, c1, c2, c3, c4, c5, c6) i hp
 simp only [F169, z111, bindO_s, eq_self, decide_true, grdO_t, seqU_s, cndO_d]
 by_cases e : nameI c0 g1 = a
 ·rw [if_pos e]; simp [e]
 ·rw [if_neg e]; simp [e]
theorem q170168 (c : Cls) (s : List Mth) (a b : List UInt8) (hp : bndP c.1) (hl : s.length ≤ 1048576) : ∃ r, F170168 (s, c, a, b) = some (r, c, a, b) ∧ (r = false ↔ ∀ k, k < s.length → ¬ (nameI c.1 (s.getD k mth0).2.1 = a ∧ nameI c.1 (s.getD k mth0).2.2.1 = b)) := by
 obtain ⟨c0, c1, c2, c3, c4, c5, c6⟩ := c
 simp only [F170168, F170237]
 have key := any_r (f := (fun (x : List Mth × Int × Int × Cls × List UInt8 × List UInt8) => cndO (decide (x.2.2.1 < x.2.1))
    (grdO (decide (0 ≤ x.2.2.1)) (atO x.1 (Int.toNat x.2.2.1) fun y => bindO (F169 ((y.1, y.2.1, y.2.2.1, y.2.2.2.1, y.2.2.2.2.1, y.2.2.2.2.2.1, y.2.2.2.2.2.2.1, y.2.2.2.2.2.2.2), (x.2.2.2.1.1, x.2.2.2.1.2.1, x.2.2.2.1.2.2.1, x.2.2.2.1.2.2.2.1, x.2.2.2.1.2.2.2.2.1, x.2.2.2.1.2.2.2.2.2.1, x.2.2.2.1.2.2.2.2.2.2), x.2.2.2.2.1, x.2.2.2.2.2)) fun z =>
    cndO z.1 (some (.inr (.inr (x.2.2.1, z.2.1, z.2.2)))) (some (.inl (x.1, x.2.1, IntKind.wrap .i64 (x.2.2.1 + 1), z.2.1, z.2.2)))))
    (some (.inr (.inl ((x.2.2.2.1.1, x.2.2.2.1.2.1, x.2.2.2.1.2.2.1, x.2.2.2.1.2.2.2.1, x.2.2.2.1.2.2.2.2.1, x.2.2.2.1.2.2.2.2.2.1, x.2.2.2.1.2.2.2.2.2.2), x.2.2.2.2.1, x.2.2.2.2.2))))))
  (fun k => (s, (s.length : Int), (k : Int), (c0, c1, c2, c3, c4, c5, c6), a, b)) ((c0, c1, c2, c3, c4, c5, c6), a, b) (fun k => ((k : Int), (c0, c1, c2, c3, c4, c5, c6), a, b)) s.length (fun k => nameI c0 (s.getD k mth0).2.1 = a ∧ nameI c0 (s.getD k mth0).2.2.1 = b) (x0 := (s, (s.length : Int), 0, (c0, c1, c2, c3, c4, c5, c6), a, b)) (k := fun x => some ((-1 : Int), x.1, x.2)) rfl ?_ ?_
 ·rcases key with ⟨h1, h2⟩ | ⟨k, h1, h2, h3⟩
  ·refine ⟨false, ?_, iff_of_true rfl h1⟩
   rw [bindO_of h2]
   rfl
  ·refine ⟨true, ?_, iff_of_false (by simp) fun h => h k h1 h2⟩
   rw [bindO_of h3]
   simp
 ·simp only [Int.lt_irrefl, decide_false, cndO_f]
 ·intro k hk
  have k1 : (k : Int) < s.length := by omega
  have k0 : (0 : Int) ≤ k := by omega
  simp only [k1, k0, decide_true, cndO_t, grdO_t, Int.toNat_natCast]
  rw [atO_gd mth0 hk]
  have hq := q169 (c0, c1, c2, c3, c4, c5, c6) (s.getD k mth0) a b hp
  refine (show (_ ∧ _) ∧ _ = _ ∨ _ from ?_)
  rw [show (((s.getD k mth0).1, (s.getD k mth0).2.1, (s.getD k mth0).2.2.1, (s.getD k mth0).2.2.2.1, (s.getD k mth0).2.2.2.2.1, (s.getD k mth0).2.2.2.2.2.1, (s.getD k mth0).2.2.2.2.2.2.1, (s.getD k mth0).2.2.2.2.2.2.2) : Mth) = s.getD k mth0 from rfl]
  rw [hq]
  simp only [bindO_s, cndO_d]
  rw [wI (by omega) (by omega)]
  by_cases e : nameI c0 (s.getD k mth0).2.1 = a ∧ nameI c0 (s.getD k mth0).2.2.1 = b
  ·rw [if_pos e]; exact .inl ⟨e, rfl⟩
  ·rw [if_neg e]; exact .inr ⟨e, rfl⟩
theorem q86 (f : Int) (h0 : 0 ≤ f) (h1 : f ≤ 255) : F86 f = some (decide (has f 8)) := by
 simp only [F86, and8 h0 h1, Bool.not_not]
theorem q85 (c : Cls) (i : Nat) (hp : bndP c.1) (hf : 0 ≤ c.2.1 ∧ c.2.1 ≤ 255) (hl : c.2.2.2.2.2.2.length ≤ 1048576) (hm : ∀ m ∈ c.2.2.2.2.2.2, 0 ≤ m.1 ∧ m.1 ≤ 255) (hi : i < c.2.2.2.2.2.2.length) : F85 (c, (i : Int)) = some (decide (MthOkI c i)) := by
  obtain ⟨c0, c1, c2, c3, c4, c5, c6⟩ := c
  obtain ⟨hf0, hf1⟩ := hf
  simp only at hp hf0 hf1 hl hm hi
  have h0 : (0 : Int) ≤ i := by omega
  have h2 : (i : Int) ≤ c6.length := by omega
  have hmi : 0 ≤ (c6.getD i mth0).1 ∧ (c6.getD i mth0).1 ≤ 255 := by
    rw [List.getD_eq_getElem?_getD, List.getElem?_eq_getElem hi]
    exact hm _ (List.getElem_mem hi)
  have hF : MthOkI (c0, c1, c2, c3, c4, c5, c6) i ↔ (TxtAt c0 (c6.getD i mth0).2.1 Nm ∧ TxtAt c0 (c6.getD i mth0).2.2.1 Dsc ∧ ((0 ≤ (c6.getD i mth0).1 ∧ (c6.getD i mth0).1 ≤ 15) ∧ (txt c0 (c6.getD i mth0).2.1 = [98, 101, 103, 105, 110] → (c6.getD i mth0).1 = 1 ∧ txt c0 (c6.getD i mth0).2.2.1 = [40, 41, 86]) ∧ (has (c6.getD i mth0).1 8 → (c6.getD i mth0).1 = 8 ∧ has c1 4) ∧ (¬ has (c6.getD i mth0).1 8 → has c1 1 → (c6.getD i mth0).1 = 1)) ∧
      ∀ k, k < i → ¬ (nameI c0 (c6.getD k mth0).2.1 = nameI c0 (c6.getD i mth0).2.1 ∧ nameI c0 (c6.getD k mth0).2.2.1 = nameI c0 (c6.getD i mth0).2.2.1)) := Iff.rfl
  simp only [F85, h0, decide_true, grdO_t, Int.toNat_natCast]
  rw [atO_gd mth0 hi]
  generalize c6.getD i mth0 = x at hF hmi ⊢
  obtain ⟨x0, x1, x2, x3, x4, x5, x6, x7⟩ := x
  obtain ⟨hm0, hm1⟩ := hmi
  simp only at hF hm0 hm1
  simp only [q49126 _ _ hp, q114126 _ _ hp, q89, bindO_s, cndO_n]
  have z111 : ∀ i, F111 ((c0, c1, c2, c3, c4, c5, c6), i) = some (nameI c0 i) := fun i => q111 (c0, c1, c2, c3, c4, c5, c6) i hp
  have z165 : F165 (c0, c1, c2, c3, c4, c5, c6) = some (decide (has c1 1)) := q165 (c0, c1, c2, c3, c4, c5, c6) ⟨hf0, hf1⟩
  have z86 := q86 x0 hm0 hm1
  by_cases b1 : TxtAt c0 x1 Nm
  · rw [decide_eq_true b1, cndO_t]
    by_cases b2 : TxtAt c0 x2 Dsc
    · rw [decide_eq_true b2, cndO_t]
      by_cases b3 : 0 ≤ x0 ∧ x0 ≤ 15
      · rw [decide_eq_true b3, cndO_t, bindE_l]
        simp only [z111, bindO_s, eq_self, decide_true, Bool.and_true, Bool.and_self, grdO_t, seqU_s, bothO_self]
        rw [nameI_txt b1.1, nameI_txt b2.1]
        cases d5 : decide (has x0 8) <;> cases d8 : decide (x0 = 8) <;> cases d6 : decide (has c1 4) <;> cases d7 : decide (has c1 1) <;> cases d9 : decide (x0 = 1) <;>
          simp only [z86, z165, bindO_s, d5, d8, d7, d9, and4 hf0 hf1, d6, cndO_t, cndO_f, Bool.not_true, Bool.not_false, bindE_l, bindE_r]
        all_goals simp only [decide_eq_true_eq, decide_eq_false_iff_not] at d5 d6 d7 d8 d9
        all_goals first
          | (refine sd ?_
             rw [hF]
             refine iff_of_false (by simp) fun h => ?_
             obtain ⟨_, _, ⟨_, _, k1, k2⟩, _⟩ := h
             first
               | exact d8 (k1 d5).1
               | exact d6 (k1 d5).2
               | exact d9 (k2 d5 d7))
          | skip
        all_goals
          have e1 : has x0 8 → x0 = 8 ∧ has c1 4 := fun h => by first | exact ⟨d8, d6⟩ | exact absurd h d5
          have e2 : ¬ has x0 8 → has c1 1 → x0 = 1 := fun h h' => by first | exact d9 | exact absurd h' d7 | exact absurd d5 h
          have k2 := d9
          clear d5 d6 d7 d8 d9
          cases k1 : decide (txt c0 x1 = [98, 101, 103, 105, 110]) <;> cases k3 : decide (txt c0 x2 = [40, 41, 86]) <;> simp only [k1, k3, Bool.not_true, Bool.not_false, cndO_t, cndO_f, bindE_l, bindE_r]
          all_goals simp only [decide_eq_true_eq, decide_eq_false_iff_not] at k1 k3
          all_goals first
            | (refine sd ?_
               rw [hF]
               refine iff_of_false (by simp) fun h => ?_
               obtain ⟨_, _, ⟨_, g1, _, _⟩, _⟩ := h
               first
                 | exact k2 (g1 k1).1
                 | exact k3 (g1 k1).2)
            | skip
          all_goals
            have e3 : txt c0 x1 = [98, 101, 103, 105, 110] → x0 = 1 ∧ txt c0 x2 = [40, 41, 86] := fun h => by first | exact ⟨k2, k3⟩ | exact absurd h k1
            clear k1 k2 k3
            obtain ⟨b, e, hb⟩ := q170168 (c0, c1, c2, c3, c4, c5, c6) (c6.take i) (txt c0 x1) (txt c0 x2) hp (by simp only [List.length_take]; omega)
            simp only [h0, h2, decide_true, Bool.and_self, grdO_t, Int.toNat_natCast, List.drop_zero]
            rw [e]
            simp only [bindO_s]
            refine sd ?_
            rw [hF, nameI_txt b1.1, nameI_txt b2.1]
            have hbi : b = false ↔ ∀ k, k < i → ¬ (nameI c0 (c6.getD k mth0).2.1 = txt c0 x1 ∧ nameI c0 (c6.getD k mth0).2.2.1 = txt c0 x2) := by
              rw [hb]
              simp only [List.length_take, Nat.min_eq_left (Nat.le_of_lt hi)]
              exact ⟨fun h k hk => by have := h k hk; rwa [getD_take hk] at this, fun h k hk => by rw [getD_take hk]; exact h k hk⟩
            rw [Bool.not_eq_true', hbi]
            exact ⟨fun h => ⟨b1, b2, ⟨b3, e3, e1, e2⟩, h⟩, fun h => h.2.2.2⟩
      · rw [decide_eq_false b3, cndO_f, bindE_r]
        exact sd (by rw [hF]; exact iff_of_false (by simp) fun h => b3 h.2.2.1.1)
    · rw [decide_eq_false b2, cndO_f, bindE_r]
      exact sd (by rw [hF]; exact iff_of_false (by simp) fun h => b2 h.2.1)
  · rw [decide_eq_false b1, cndO_f, bindE_r]
    exact sd (by rw [hF]; exact iff_of_false (by simp) fun h => b1 h.1)
end Go.Proofs.YtdpapeledldifaaGreat
end
section
namespace Go.Stow
theorem argN_le (op : Int) : -1 ≤ argN op ∧ argN op ≤ 2 := by unfold argN; repeat' split <;> omega
end Go.Stow
namespace Go.Proofs.YtdpapeledldifaaGreat
open Go Go.AM Go.TM Go.Stow
theorem q251 (op : Int) : F251 op = some (argN op) := by
 simp only [F251, q107, bindO_s, cndO_d, bindE_if, bindE_l, bindE_r]
 unfold argN
 repeat' split
 all_goals first | rfl | (exfalso; omega)
theorem q90 (op : Int) : F90 op = some (argN op) := by
 simp only [F90, q89, bindO_s, cndO_d, cndO_t, bindE_if, bindE_l, bindE_r]
 unfold argN
 repeat' split
 all_goals first | rfl | (exfalso; omega)
theorem q252 (s : List UInt8) (op : Int) (hs : s.length ≤ 2) : F252 (s, op) = some (numB op s) := by
 match s, hs with
 | [], _ => rfl
 | [a], _ =>
  have ha := a.toNat_lt
  have e0 : ∀ k : UInt8 → Option Int, atO [a] 0 k = k a := fun k => rfl
  simp (discharger := omega) only [F252, List.length_cons, List.length_nil, e0, wI, cndO_d, bindE_if, bindE_l, numB]
  rw [if_neg (by omega), if_neg (by omega)]
  rw [if_neg (show ¬ (32768 : Int) ≤ (a.toNat : Int) by omega)]
  split <;> rfl
 | [a, b], _ =>
  have ha := a.toNat_lt
  have hb := b.toNat_lt
  have e0 : ∀ k : UInt8 → Option Int, atO [a, b] 0 k = k a := fun k => rfl
  have e1 : ∀ k : UInt8 → Option (Int × Int ⊕ Int), atO [a, b] 1 k = k b := fun k => rfl
  simp (discharger := omega) only [F252, List.length_cons, List.length_nil, e0, e1, wI, cndO_d, bindE_if, bindE_l, numB]
  rw [if_neg (by omega), if_pos (by omega)]
  by_cases h1 : op = 1
  ·rw [if_pos h1]
   by_cases h2 : (32768 : Int) ≤ (a.toNat : Int) * 256 + (b.toNat : Int)
   ·rw [if_pos h2, if_pos ⟨h1, h2⟩]
   ·rw [if_neg h2, if_neg fun h => h2 h.2]
  ·rw [if_neg h1, if_neg fun h => h1 h.1]
theorem ops_loop {X Y R : Type} {f : X → Option (X ⊕ (Y ⊕ R))} {k : Y → Option R} (s : List UInt8) (mk : List InsP → Nat → X) (bad : R) (good : List InsP → R)
  (hend : ∀ out, out.length ≤ s.length → bindE (whileO f (mk out s.length)) k = some (good out))
  (hbad : ∀ out a (h : a < s.length), out.length ≤ a → (argN s[a].toNat < 0 ∨ ((s.drop (a + 1)).length : Int) < argN s[a].toNat) → bindE (whileO f (mk out a)) k = some bad)
  (hstep : ∀ out a (h : a < s.length) (n : Nat), out.length ≤ a → argN s[a].toNat = n → n ≤ (s.drop (a + 1)).length → f (mk out a) = some (.inl (mk (out ++ [((a : Int), (s[a].toNat : Int), numB s[a].toNat ((s.drop (a + 1)).take n))]) (a + 1 + n)))) :
  ∀ (m a : Nat) (out : List InsP), s.length - a ≤ m → a ≤ s.length → out.length ≤ a → bindE (whileO f (mk out a)) k = some (match opsN m (a : Int) (s.drop a) with | some r => good (out ++ r) | none => bad) := by
 intro m
 induction m with
 | zero =>
  intro a out hm ha ho
  have : a = s.length := by omega
  subst this
  rw [hend out ho, List.drop_eq_nil_of_le (Nat.le_refl _)]
  simp only [opsN, List.append_nil]
 | succ m ih =>
  intro a out hm ha ho
  by_cases h : a < s.length
  ·rw [drop_cons h]
   simp only [opsN]
   by_cases hb : argN s[a].toNat < 0 ∨ ((s.drop (a + 1)).length : Int) < argN s[a].toNat
   ·rw [if_pos hb, hbad out a h ho hb]
   ·rw [if_neg hb]
    have hn : argN s[a].toNat = ((argN s[a].toNat).toNat : Int) := by omega
    generalize (argN s[a].toNat).toNat = n at hn
    have hle : n ≤ (s.drop (a + 1)).length := by omega
    have hd : (s.drop (a + 1)).drop n = s.drop (a + 1 + n) := by rw [List.drop_drop]
    have hlen : a + 1 + n ≤ s.length := by simp only [List.length_drop] at hle; omega
    rw [while_on (hstep out a h n ho hn hle), ih (a + 1 + n) _ (by omega) hlen (by simp only [List.length_append, List.length_cons, List.length_nil]; omega), hn, hd]
    rw [show (((a + 1 + n : Nat)) : Int) = (a : Int) + 1 + n by omega]
    cases opsN m ((a : Int) + 1 + n) (s.drop (a + 1 + n)) with
    | none => rfl
    | some q => simp only [Option.map_some, List.append_assoc, List.singleton_append]
  ·have : a = s.length := by omega
   subst this
   rw [hend out ho, List.drop_eq_nil_of_le (Nat.le_refl _)]
   simp only [opsN, List.append_nil]
theorem q193 (s : List UInt8) (hs : s.length ≤ 1048576) : F193 s = some (opsV s) := by
 simp only [F193, cndO_d]
 refine (ops_loop s (fun out a => (s, out, (a : Int))) ([], false) (fun r => (r, decide ((0 : Int) < r.length))) ?_ ?_ ?_ s.length 0 [] (by omega) (by omega) (by simp)).trans ?_
 ·intro out ho
  rw [while_end (y := .inl out) (by simp only [Int.lt_irrefl, if_false]), bindE_l]
 ·intro out a h ho hb
  have h1 : (a : Int) < s.length := by omega
  have h0 : (0 : Int) ≤ a := by omega
  have hr := s[a].toNat_lt
  rw [while_end (y := .inr ([], false)), bindE_r]
  simp (discharger := omega) only [h1, h0, if_true, decide_true, grdO_t, Int.toNat_natCast, atO_get, wI, q251, bindO_s]
  by_cases h2 : argN s[a].toNat < 0
  ·rw [if_pos h2, bindE_r]
  ·have h3 := (argN_le s[a].toNat).2
   have h4 : (s.length : Int) < (a : Int) + 1 + argN s[a].toNat := by
    have := hb.resolve_left h2
    simp only [List.length_drop] at this
    omega
   rw [if_neg h2, wI (by omega) (by omega), if_pos h4, bindE_r]
 ·intro out a h n ho hn hle
  have h1 : (a : Int) < s.length := by omega
  have h0 : (0 : Int) ≤ a := by omega
  have hr := s[a].toNat_lt
  have hn2 := (argN_le s[a].toNat).2
  rw [hn] at hn2
  have h2 : ¬ ((n : Int) < 0) := by omega
  have hle' := hle
  simp only [List.length_drop] at hle'
  have h4 : ¬ (s.length : Int) < (a : Int) + 1 + n := by omega
  have g1 : (0 : Int) ≤ (a : Int) + 1 := by omega
  have g2 : (a : Int) + 1 ≤ (a : Int) + 1 + n := by omega
  have g3 : (a : Int) + 1 + n ≤ s.length := by omega
  have t1 : ((a : Int) + 1).toNat = a + 1 := by omega
  have t2 : ((a : Int) + 1 + n).toNat = a + 1 + n := by omega
  have hd : (s.take (a + 1 + n)).drop (a + 1) = (s.drop (a + 1)).take n := by rw [List.drop_take]; congr 1; omega
  have hl2 : ((s.drop (a + 1)).take n).length ≤ 2 := by simp only [List.length_take]; omega
  have q5 : out.length + 1 ≤ 9223372036854775807 := by omega
  have q6 : (out.length + 1) * 24 ≤ 140737488355328 := by omega
  simp (discharger := omega) only [h1, h0, if_true, decide_true, grdO_t, Int.toNat_natCast, atO_get, wI, q251, bindO_s, hn, h2, h4, if_false, bindE_l, g1, g2, g3, Bool.and_self, t1, t2, hd, q252 _ _ hl2, q5, q6]
  rfl
 ·rw [List.drop_zero]
  unfold opsV
  simp only [List.nil_append]
  show some (match opsN s.length (0 : Int) s with | some r => _ | none => _) = _
  cases opsN s.length 0 s with
  | none => rfl
  | some r =>
   cases r with
   | nil => rfl
   | cons x r => simp
def raw : List UInt8 → Int
 | [] => 0
 | [a] => a.toNat
 | a :: b :: _ => 256 * (a.toNat : Int) + b.toNat
theorem raw_num (op : Int) (t : List UInt8) : (op = 1 ∧ 32767 < raw t → raw t - 65536 = numB op t) ∧ (¬ (op = 1 ∧ 32767 < raw t) → raw t = numB op t) := by
 match t with
 | [] => exact ⟨fun h => absurd h.2 (by simp [raw]), fun _ => rfl⟩
 | [a] =>
  have := a.toNat_lt
  exact ⟨fun h => absurd h.2 (by simp only [raw]; omega), fun _ => rfl⟩
 | a :: b :: l =>
  have := a.toNat_lt
  have := b.toNat_lt
  have hr : raw (a :: b :: l) = 256 * (a.toNat : Int) + b.toNat := rfl
  have hn : numB op (a :: b :: l) = if op = 1 ∧ 32768 ≤ (a.toNat : Int) * 256 + b.toNat then (a.toNat : Int) * 256 + b.toNat - 65536 else (a.toNat : Int) * 256 + b.toNat := rfl
  rw [hr, hn]
  constructor
  ·intro h
   rw [if_pos ⟨h.1, by omega⟩]
   omega
  ·intro h
   rw [if_neg fun h' => h ⟨h'.1, by omega⟩]
   omega
theorem raw_ran (t : List UInt8) : 0 ≤ raw t ∧ raw t ≤ 65535 := by
 match t with
 | [] => simp [raw]
 | [a] => have := a.toNat_lt; simp only [raw]; omega
 | a :: b :: l => have := a.toNat_lt; have := b.toNat_lt; simp only [raw]; omega
theorem raw_loop {X Y R : Type} {f : X → Option (X ⊕ (Y ⊕ R))} {k : Y → Option R} (t : List UInt8) (mk : Int → Nat → X) (fin : Int → Y) (ht : t.length ≤ 2) {x0 : X} (hx : x0 = mk 0 0)
  (hend : ∀ acc, f (mk acc t.length) = some (.inr (.inl (fin acc))))
  (hstep : ∀ acc i (h : i < t.length), 0 ≤ acc → acc ≤ 255 → f (mk acc i) = some (.inl (mk (256 * acc + t[i].toNat) (i + 1)))) : bindE (whileO f x0) k = k (fin (raw t)) := by
 rw [hx]
 match t, ht with
 | [], _ =>
  have h1 : f (mk 0 0) = some (.inr (.inl (fin 0))) := hend 0
  rw [while_end h1, bindE_l]; rfl
 | [a], _ =>
  have := a.toNat_lt
  have h0 : f (mk 0 0) = some (.inl (mk (a.toNat : Int) 1)) := by have := hstep 0 0 (by simp) (by omega) (by omega); simpa using this
  have h1 : f (mk (a.toNat : Int) 1) = some (.inr (.inl (fin (a.toNat : Int)))) := hend _
  rw [while_on h0, while_end h1, bindE_l]; rfl
 | [a, b], _ =>
  have ha := a.toNat_lt
  have hb := b.toNat_lt
  have h0 : f (mk 0 0) = some (.inl (mk (a.toNat : Int) 1)) := by have := hstep 0 0 (by simp) (by omega) (by omega); simpa using this
  have h1 : f (mk (a.toNat : Int) 1) = some (.inl (mk (256 * (a.toNat : Int) + b.toNat) 2)) := by have := hstep (a.toNat : Int) 1 (by simp) (by omega) (by omega); simpa using this
  have h2 : f (mk (256 * (a.toNat : Int) + b.toNat) 2) = some (.inr (.inl (fin (256 * (a.toNat : Int) + b.toNat)))) := hend _
  rw [while_on h0, while_on h1, while_end h2, bindE_l]; rfl
theorem q31 (s : List UInt8) (hs : s.length ≤ 120) : F31 s = some (opsV s) := by
 simp only [F31, q89, bindO_s, cndO_n, cndO_d]
 by_cases hr : (1 : Int) ≤ s.length ∧ (s.length : Int) ≤ 120
 ·rw [if_pos hr]
  refine (ops_loop s (fun out a => (s, out, (a : Int))) ([], false) (fun r => (r, true)) ?_ ?_ ?_ s.length 0 [] (by omega) (by omega) (by simp)).trans ?_
  ·intro out ho
   rw [while_end (y := .inl out) (by simp only [Int.lt_irrefl, if_false]), bindE_l]
  ·intro out a h ho hb
   have h1 : (a : Int) < s.length := by omega
   have h0 : (0 : Int) ≤ a := by omega
   have hrr := s[a].toNat_lt
   rw [while_end (y := .inr ([], false)), bindE_r]
   simp (discharger := omega) only [h1, h0, if_true, decide_true, grdO_t, Int.toNat_natCast, atO_get, wI, q90, bindO_s]
   by_cases h2 : argN s[a].toNat < 0
   ·rw [if_pos h2]; rfl
   ·have h4 : (s.length : Int) - a ≤ argN s[a].toNat := by
     have := hb.resolve_left h2
     simp only [List.length_drop] at this
     omega
    rw [if_neg h2, if_pos h4]; rfl
  ·intro out a h n ho hn hle
   have h1 : (a : Int) < s.length := by omega
   have h0 : (0 : Int) ≤ a := by omega
   have hrr := s[a].toNat_lt
   have hn2 := (argN_le s[a].toNat).2
   rw [hn] at hn2
   have h2 : ¬ ((n : Int) < 0) := by omega
   have hle' := hle
   simp only [List.length_drop] at hle'
   have h4 : ¬ (s.length : Int) - a ≤ (n : Int) := by omega
   have g1 : (0 : Int) ≤ (a : Int) + 1 := by omega
   have g2 : (a : Int) + 1 ≤ (a : Int) + 1 + n := by omega
   have g3 : (a : Int) + 1 + n ≤ s.length := by omega
   have t1 : ((a : Int) + 1).toNat = a + 1 := by omega
   have t2 : ((a : Int) + 1 + n).toNat = a + 1 + n := by omega
   have hd : (s.take (a + 1 + n)).drop (a + 1) = (s.drop (a + 1)).take n := by rw [List.drop_take]; congr 1; omega
   have hl2 : ((s.drop (a + 1)).take n).length ≤ 2 := by simp only [List.length_take]; omega
   have q5 : out.length + 1 ≤ 9223372036854775807 := by omega
   have q6 : (out.length + 1) * 24 ≤ 140737488355328 := by omega
   simp (discharger := omega) only [h1, h0, if_true, decide_true, grdO_t, Int.toNat_natCast, atO_get, wI, q90, bindO_s, hn, h2, h4, if_false, bindE_l, g1, g2, g3, Bool.and_self, t1, t2, hd]
   generalize (s.drop (a + 1)).take n = t at hl2
   generalize s[a] = x at hrr
   have hk := raw_num x.toNat t
   have hrr2 := raw_ran t
   refine (congrArg (bindE · _) (raw_loop t (fun acc i => (s, out, (a : Int), (n : Int), t, (t.length : Int), (i : Int), (a : Int), (x.toNat : Int), acc)) (fun acc => (s, out, (a : Int), (n : Int), (a : Int), (x.toNat : Int), acc)) hl2 rfl ?_ ?_)).trans ?_
   ·intro acc
    simp only [Int.lt_irrefl, if_false]
   ·intro acc i hi ha0 ha1
    have i1 : (i : Int) < t.length := by omega
    have i0 : (0 : Int) ≤ i := by omega
    have := t[i].toNat_lt
    simp (discharger := omega) only [i1, i0, if_true, decide_true, grdO_t, Int.toNat_natCast, atO_get, wI]
    rfl
   ·have e : (if (if (x.toNat : Int) = 1 then decide (32767 < raw t) else false) = true then raw t - 65536 else raw t) = numB x.toNat t := by
     by_cases hc : (x.toNat : Int) = 1 ∧ 32767 < raw t
     ·rw [← hk.1 hc]; simp [hc.1, hc.2]
     ·rw [← hk.2 hc]
      by_cases h1 : (x.toNat : Int) = 1
      ·have : ¬ 32767 < raw t := fun h => hc ⟨h1, h⟩
       simp [h1, this]
      ·simp [h1]
    rw [← e]
    simp only
    by_cases c1 : (x.toNat : Int) = 1
    ·simp only [if_pos c1, bindE_l]
     by_cases c2 : 32767 < raw t
     ·simp (discharger := omega) only [c2, decide_true, cndO_t, cndO_d, bindE_l, if_true, q5, q6, Bool.and_self, grdO_t, wI]
      rw [show (a : Int) + (1 + (n : Int)) = ((a + 1 + n : Nat) : Int) by omega]
     ·simp (discharger := omega) only [c2, decide_false, cndO_f, cndO_d, bindE_l, if_false, Bool.false_eq_true, q5, q6, decide_true, Bool.and_self, grdO_t, wI]
      rw [show (a : Int) + (1 + (n : Int)) = ((a + 1 + n : Nat) : Int) by omega]
    ·simp (discharger := omega) only [if_neg c1, bindE_l, cndO_f, Bool.false_eq_true, if_false, q5, q6, decide_true, Bool.and_self, grdO_t, wI]
     rw [show (a : Int) + (1 + (n : Int)) = ((a + 1 + n : Nat) : Int) by omega]
  ·rw [List.drop_zero]
   unfold opsV
   simp only [List.nil_append]
   show some (match opsN s.length (0 : Int) s with | some r => _ | none => _) = _
   cases he : opsN s.length 0 s with
   | none => rfl
   | some r =>
    cases r with
    | nil =>
     exfalso
     cases s with
     | nil => simp at hr
     | cons x l =>
      simp only [List.length_cons, opsN] at he
      split at he
      ·cases he
      ·cases ho : opsN l.length (0 + 1 + argN x.toNat) (l.drop (argN x.toNat).toNat) with
       | none => rw [ho] at he; cases he
       | some q => rw [ho] at he; simp at he
    | cons x r => rfl
 ·rw [if_neg hr]
  have : s = [] := List.length_eq_zero_iff.1 (by omega)
  subst this
  rfl
end Go.Proofs.YtdpapeledldifaaGreat
end
section
namespace Go.Stow
theorem all_getD {α : Type} {l : List α} (d : α) {P : α → Prop} : (∀ x ∈ l, P x) ↔ ∀ i, i < l.length → P (l.getD i d) := by
 constructor
 ·intro h i hi
  rw [List.getD_eq_getElem?_getD, List.getElem?_eq_getElem hi]
  exact h _ (List.getElem_mem hi)
 ·intro h x hx
  obtain ⟨i, hi, rfl⟩ := List.mem_iff_getElem.1 hx
  have := h i hi
  rwa [List.getD_eq_getElem?_getD, List.getElem?_eq_getElem hi] at this
theorem opsN_len : ∀ (m : Nat) (a : Int) (s : List UInt8) (r : List InsP), opsN m a s = some r → r.length ≤ m
 | 0, a, [], r, h => by simp only [opsN, Option.some.injEq] at h; simp [← h]
 | _ + 1, a, [], r, h => by simp only [opsN, Option.some.injEq] at h; simp [← h]
 | 0, a, _ :: _, r, h => by simp [opsN] at h
 | m + 1, a, x :: l, r, h => by
  simp only [opsN] at h
  split at h
  ·cases h
  ·cases ho : opsN m (a + 1 + argN x.toNat) (l.drop (argN x.toNat).toNat) with
   | none => rw [ho] at h; cases h
   | some q =>
    rw [ho] at h
    simp only [Option.map_some, Option.some.injEq] at h
    have := opsN_len m _ _ q ho
    rw [← h]
    simp only [List.length_cons]
    omega
theorem opsV_len (s : List UInt8) : (opsV s).1.length ≤ s.length := by
 unfold opsV
 cases h : opsN s.length 0 s with
 | none => simp
 | some r =>
  cases r with
  | nil => simp
  | cons x r => exact opsN_len _ _ _ _ h
theorem more_len : ∀ (k : Nat) (l : List UInt8) (ts : List (List UInt8)) (b : List UInt8), more k l = some (ts, b) → ts.length ≤ k
 | 0, [], ts, b, h => by simp [more] at h
 | _ + 1, [], ts, b, h => by simp [more] at h
 | 0, x :: l, ts, b, h => by
  simp only [more] at h
  split at h
  ·simp only [Option.some.injEq, Prod.mk.injEq] at h; rw [← h.1]; simp
  ·cases h
 | k + 1, x :: l, ts, b, h => by
  rw [more_succ] at h
  split at h
  ·simp only [Option.some.injEq, Prod.mk.injEq] at h; rw [← h.1]; simp
  ·cases ho : one (x :: l) with
   | none => rw [ho] at h; cases h
   | some p =>
    rw [ho] at h
    simp only [Option.bind_some] at h
    cases hm : more k p.2 with
    | none => rw [hm] at h; cases h
    | some q =>
     obtain ⟨q1, q2⟩ := q
     rw [hm] at h
     simp only [Option.map_some, Option.some.injEq, Prod.mk.injEq] at h
     have := more_len k _ _ _ hm
     rw [← h.1]
     simp only [List.length_cons]
     omega
theorem dsc_len (s : List UInt8) : (dsc s).1.length ≤ 4 := by
 cases s with
 | nil => simp [dsc]
 | cons x l =>
  simp only [dsc]
  split
  ·cases h : more 4 l with
   | none => simp
   | some p =>
    obtain ⟨ts, b⟩ := p
    simp only
    split
    ·exact more_len 4 l ts b h
    ·simp
  ·simp
end Go.Stow
namespace Go.Proofs.YtdpapeledldifaaGreat
open Go Go.AM Go.TM Go.Stow
theorem q254 (l : List InsP) (a : Int) (hl : l.length ≤ 1048576) : F254 (l, a) = some (opI l a) := by
 simp only [F254, cndO_d]
 refine (find_loop (fun i => (l, a, (i : Int))) () l (fun x => decide (x.1 = a)) (fun i => (i : Int)) rfl ?_ ?_).trans ?_
 ·simp only [Int.lt_irrefl, if_false]
 ·intro i hi
  have i1 : (i : Int) < l.length := by omega
  have i0 : (0 : Int) ≤ i := by omega
  simp (discharger := omega) only [i1, i0, if_true, decide_true, grdO_t, Int.toNat_natCast, atO_get, wI, decide_eq_true_eq]
  split <;> rfl
 ·unfold opI
  cases l.findIdx? (fun x => decide (x.1 = a)) <;> rfl
theorem q291 (op : Int) : F291 op = some (want op) := by
 simp only [F291, cndO_d, cndO_t, bindE_if, bindE_l, bindE_r]
 unfold want
 repeat' split
 all_goals first | rfl | (exfalso; omega)
theorem q246 (c : Cls) (m : Mth) (l : List InsP) (x : InsP) (hp : bndP c.1) (hl : l.length ≤ 1048576) : F246 (c, m, l, x) = some (decide (InsOk c.1 m.2.2.2.2.1 l x)) := by
 obtain ⟨c0, c1, c2, c3, c4, c5, c6⟩ := c
 obtain ⟨m0, m1, m2, m3, m4, m5, m6, m7⟩ := m
 obtain ⟨x0, x1, x2⟩ := x
 simp only at hp
 have hI : InsOk c0 m4 l (x0, x1, x2) ↔ ((3 ≤ x1 ∧ x1 ≤ 6 → x2 < m4) ∧ (14 ≤ x1 ∧ x1 ≤ 18 → 0 ≤ opI l x2) ∧ (want x1 ≠ 0 → (entAt c0 x2).1 = want x1)) := Iff.rfl
 simp only [F246, q107, q254 _ _ hl, q291, q133 _ _ _ hp, bindO_s, cndO_d]
 by_cases h1 : 3 ≤ x1 ∧ x1 ≤ 6
 ·rw [if_pos h1]
  have h2 : ¬ (14 ≤ x1 ∧ x1 ≤ 18) := by omega
  have h3 : want x1 = 0 := by unfold want; repeat' split <;> omega
  exact sd (by rw [hI, decide_eq_true_iff]; simp [h1, h2, h3])
 ·rw [if_neg h1]
  by_cases h2 : 14 ≤ x1 ∧ x1 ≤ 18
  ·rw [if_pos h2]
   have h3 : want x1 = 0 := by unfold want; repeat' split <;> omega
   exact sd (by rw [hI, decide_eq_true_iff]; simp [h1, h2, h3])
  ·rw [if_neg h2]
   by_cases h3 : want x1 = 0
   ·rw [if_pos h3]
    exact sd (by rw [hI]; simp [h1, h2, h3])
   ·rw [if_neg h3]
    exact sd (by rw [hI, decide_eq_true_iff]; simp [h1, h2, h3])
theorem q247 (c : Cls) (m : Mth) (l : List InsP) (t : Trp) (hp : bndP c.1) (hl : l.length ≤ 1048576) : F247 (c, m, l, t) = some (decide (TrapOk c.1 m.2.2.2.2.2.1.length l t)) := by
 obtain ⟨c0, c1, c2, c3, c4, c5, c6⟩ := c
 obtain ⟨m0, m1, m2, m3, m4, m5, m6, m7⟩ := m
 obtain ⟨t0, t1, t2, t3⟩ := t
 simp only at hp
 have hI : TrapOk c0 m5.length l (t0, t1, t2, t3) ↔ (t0 < t1 ∧ 0 ≤ opI l t0 ∧ (t1 = (m5.length : Int) ∨ 0 ≤ opI l t1) ∧ 0 ≤ opI l t2 ∧ (t3 = 0 ∨ ClsAt c0 t3)) := Iff.rfl
 simp only [F247, q254 _ _ hl, bindO_s, cndO_n, cndO_d]
 by_cases h1 : t1 ≤ t0
 ·rw [if_pos h1, bindE_r]
  exact sd (by rw [hI]; exact iff_of_false (by simp) fun h => by omega)
 rw [if_neg h1]
 by_cases h2 : opI l t0 < 0
 ·rw [if_pos h2, bindE_r]
  exact sd (by rw [hI]; exact iff_of_false (by simp) fun h => by omega)
 rw [if_neg h2]
 have hfin : (t1 = (m5.length : Int) ∨ 0 ≤ opI l t1) → (bindE (if opI l t2 < 0 then some (Sum.inr false) else some (Sum.inl ((c0, c1, c2, c3, c4, c5, c6), t0, t1, t2, t3)) : Option ((Cls × Int × Int × Int × Int) ⊕ Bool)) fun (x : Cls × Int × Int × Int × Int) =>
   if x.2.2.2.2 = 0 then some true else bindO (F130 (x.1.1, x.2.2.2.2)) fun y => some (!decide (y = []))) = some (decide (TrapOk c0 m5.length l (t0, t1, t2, t3))) := by
  intro h3
  by_cases h4 : opI l t2 < 0
  ·rw [if_pos h4, bindE_r]
   exact sd (by rw [hI]; exact iff_of_false (by simp) fun h => by omega)
  rw [if_neg h4, bindE_l]
  simp only [q130 _ _ hp, bindO_s]
  by_cases h5 : t3 = 0
  ·rw [if_pos h5]
   exact sd (by rw [hI]; exact iff_of_true rfl ⟨by omega, by omega, h3, by omega, .inl h5⟩)
  ·rw [if_neg h5]
   refine sd ?_
   rw [hI]
   simp only [Bool.not_eq_true', decide_eq_false_iff_not]
   rw [show (¬ clsN c0 t3 = []) ↔ ClsAt c0 t3 from clsN_ne]
   exact ⟨fun h => ⟨by omega, by omega, h3, by omega, .inr h⟩, fun h => h.2.2.2.2.resolve_left h5⟩
 by_cases h3 : t1 = (m5.length : Int)
 ·rw [if_pos h3]
  exact hfin (.inl h3)
 ·rw [if_neg h3]
  by_cases h4 : opI l t1 < 0
  ·rw [if_pos h4, bindE_r]
   exact sd (by rw [hI]; exact iff_of_false (by simp) fun h => by omega)
  ·rw [if_neg h4]
   exact hfin (.inr (by omega))
theorem q292 (c : Cls) (l : List Knd) (hp : bndP c.1) (hl : l.length ≤ 1048576) : F292 (c, l) = some (decide (KndsOk c.1 l)) := by
 obtain ⟨c0, c1, c2, c3, c4, c5, c6⟩ := c
 simp only at hp
 simp only [F292, cndO_d]
 refine ask_r (fun i => (l, (i : Int), c0, c1, c2, c3, c4, c5, c6)) () false l.length (fun i => KndOk c0 (l.getD i (0, 0))) rfl ?_ ?_ ?_ ?_
 ·simp only [Int.lt_irrefl, if_false]
 ·intro i hi
  have i1 : (i : Int) < l.length := by omega
  have i0 : (0 : Int) ≤ i := by omega
  simp only [i1, i0, if_true, decide_true, grdO_t, Int.toNat_natCast]
  simp only [atO_gd ((0, 0) : Knd) hi]
  generalize l.getD i (0, 0) = x
  have hK : KndOk c0 x ↔ ((0 ≤ x.1 ∧ x.1 ≤ 3) ∧ (x.1 = 3 → ClsAt c0 x.2) ∧ (x.1 ≠ 3 → x.2 = 0)) := Iff.rfl
  simp only [q107, q130 _ _ hp, bindO_s, cndO_n, cndO_d]
  by_cases h1 : 0 ≤ x.1 ∧ x.1 ≤ 3
  ·rw [if_pos h1]
   by_cases h2 : x.1 = 3
   ·rw [if_pos h2, if_pos h2]
    by_cases h3 : clsN c0 x.2 = []
    ·rw [if_pos h3]
     exact .inr ⟨fun h => clsN_ne.2 ((hK.1 h).2.1 h2) h3, rfl⟩
    ·rw [if_neg h3]
     refine .inl ⟨hK.2 ⟨h1, fun _ => clsN_ne.1 h3, fun h => absurd h2 h⟩, ?_⟩
     simp only [bindE_l]
     rw [wI (by omega) (by omega)]; rfl
   ·rw [if_neg h2, if_neg h2]
    by_cases h3 : x.2 = 0
    ·rw [if_pos h3]
     refine .inl ⟨hK.2 ⟨h1, fun h => absurd h h2, fun _ => h3⟩, ?_⟩
     simp only [bindE_l]
     rw [wI (by omega) (by omega)]; rfl
    ·rw [if_neg h3]
     exact .inr ⟨fun h => h3 ((hK.1 h).2.2 h2), rfl⟩
  ·rw [if_neg h1]
   exact .inr ⟨fun h => h1 (hK.1 h).1, rfl⟩
 ·intro h
  exact sd (iff_of_true rfl ((all_getD (0, 0)).2 h))
 ·intro h
  exact sd (iff_of_false (by simp) fun h' => h ((all_getD (0, 0)).1 h'))
theorem q245 (c : Cls) (m : Mth) (hp : bndP c.1) (hm : 0 ≤ m.1 ∧ m.1 ≤ 255) : F245 (c, m) = some (takes c.1 m) := by
 obtain ⟨c0, c1, c2, c3, c4, c5, c6⟩ := c
 obtain ⟨m0, m1, m2, m3, m4, m5, m6, m7⟩ := m
 obtain ⟨hm0, hm1⟩ := hm
 simp only at hp hm0 hm1
 have hd := dsc_len (txt c0 m2)
 simp only [F245, q131 _ _ hp, n214 _ (txt_len hp _), q108 hm0 hm1 (show (1 : Int) ≤ 1 by omega), bindO_s, cndO_d, takes]
 split
 ·rfl
 ·rw [wI (by omega) (by omega)]
theorem q248 (c : Cls) (m : Mth) (l : List InsP) (hp : bndP c.1) (hl : l.length ≤ 1048576) (hm : m.2.2.2.2.2.2.2.length ≤ 1048576) (hk : ∀ f ∈ m.2.2.2.2.2.2.2, bFrm f) : F248 (c, m, l) = some (decide (FrmsOk c.1 m l)) := by
 obtain ⟨c0, c1, c2, c3, c4, c5, c6⟩ := c
 obtain ⟨m0, m1, m2, m3, m4, m5, m6, m7⟩ := m
 simp only at hp hm hk
 simp only [F248, cndO_d]
 refine ask_r (fun i => (l, (i : Int), (c0, c1, c2, c3, c4, c5, c6), m0, m1, m2, m3, m4, m5, m6, m7)) () false m7.length (FrmOk c0 (m0, m1, m2, m3, m4, m5, m6, m7) l) rfl ?_ ?_ ?_ ?_
 ·simp only [Int.lt_irrefl, if_false]
 ·intro i hi
  have i1 : (i : Int) < m7.length := by omega
  have i0 : (0 : Int) ≤ i := by omega
  have hF : FrmOk c0 (m0, m1, m2, m3, m4, m5, m6, m7) l i ↔ (0 ≤ opI l (m7.getD i (0, [], [])).1 ∧ (0 < i → (m7.getD (i - 1) (0, [], [])).1 < (m7.getD i (0, [], [])).1) ∧ ((m7.getD i (0, [], [])).2.1.length : Int) = m4 ∧ ((m7.getD i (0, [], [])).2.2.length : Int) ≤ m3 ∧ KndsOk c0 (m7.getD i (0, [], [])).2.1 ∧ KndsOk c0 (m7.getD i (0, [], [])).2.2) := Iff.rfl
  have hb : bFrm (m7.getD i (0, [], [])) := (all_getD (P := bFrm) (0, [], [])).1 hk i hi
  simp only [i1, i0, if_true, decide_true, grdO_t, Int.toNat_natCast]
  rw [atO_gd (0, [], []) hi]
  rw [hF]
  generalize m7.getD i (0, [], []) = x at hb
  have z1 : F292 ((c0, c1, c2, c3, c4, c5, c6), x.2.1) = some (decide (KndsOk c0 x.2.1)) := q292 (c0, c1, c2, c3, c4, c5, c6) x.2.1 hp hb.1
  have z2 : F292 ((c0, c1, c2, c3, c4, c5, c6), x.2.2) = some (decide (KndsOk c0 x.2.2)) := q292 (c0, c1, c2, c3, c4, c5, c6) x.2.2 hp hb.2
  simp only [q254 _ _ hl, z1, z2, bindO_s, cndO_n, cndO_d]
  by_cases h1 : opI l x.1 < 0
  ·rw [if_pos h1]
   exact .inr ⟨fun h => by omega, rfl⟩
  rw [if_neg h1]
  have hrest : (0 < i → (m7.getD (i - 1) (0, [], [])).1 < x.1) → ∀ F : Option ((List InsP × Int × Cls × Mth) ⊕ ((List InsP × Int × Cls × Mth) ⊕ (Unit ⊕ Bool))) → Option ((List InsP × Int × Cls × Mth) ⊕ (Unit ⊕ Bool)), F (some (.inr (.inr (.inr false)))) = some (.inr (.inr false)) →
    F (some (.inl (l, (i : Int), (c0, c1, c2, c3, c4, c5, c6), m0, m1, m2, m3, m4, m5, m6, m7))) = some (.inl (l, ((i + 1 : Nat) : Int), (c0, c1, c2, c3, c4, c5, c6), m0, m1, m2, m3, m4, m5, m6, m7)) →
    ((0 ≤ opI l x.1 ∧ (0 < i → (m7.getD (i - 1) (0, [], [])).1 < x.1) ∧ (x.2.1.length : Int) = m4 ∧ (x.2.2.length : Int) ≤ m3 ∧ KndsOk c0 x.2.1 ∧ KndsOk c0 x.2.2) ∧
     F (if (x.2.1.length : Int) = m4 then if m3 < (x.2.2.length : Int) then some (.inr (.inr (.inr false))) else if KndsOk c0 x.2.1 then if KndsOk c0 x.2.2 then some (.inl (l, (i : Int), (c0, c1, c2, c3, c4, c5, c6), m0, m1, m2, m3, m4, m5, m6, m7)) else some (.inr (.inr (.inr false))) else some (.inr (.inr (.inr false))) else some (.inr (.inr (.inr false)))) = some (.inl (l, ((i + 1 : Nat) : Int), (c0, c1, c2, c3, c4, c5, c6), m0, m1, m2, m3, m4, m5, m6, m7))) ∨
    (¬ (0 ≤ opI l x.1 ∧ (0 < i → (m7.getD (i - 1) (0, [], [])).1 < x.1) ∧ (x.2.1.length : Int) = m4 ∧ (x.2.2.length : Int) ≤ m3 ∧ KndsOk c0 x.2.1 ∧ KndsOk c0 x.2.2) ∧
     F (if (x.2.1.length : Int) = m4 then if m3 < (x.2.2.length : Int) then some (.inr (.inr (.inr false))) else if KndsOk c0 x.2.1 then if KndsOk c0 x.2.2 then some (.inl (l, (i : Int), (c0, c1, c2, c3, c4, c5, c6), m0, m1, m2, m3, m4, m5, m6, m7)) else some (.inr (.inr (.inr false))) else some (.inr (.inr (.inr false))) else some (.inr (.inr (.inr false)))) = some (.inr (.inr false))) := by
   intro h2 F f1 f2
   by_cases h3 : (x.2.1.length : Int) = m4
   ·rw [if_pos h3]
    by_cases h4 : m3 < (x.2.2.length : Int)
    ·rw [if_pos h4]; exact .inr ⟨fun h => by omega, f1⟩
    ·rw [if_neg h4]
     by_cases h5 : KndsOk c0 x.2.1
     ·rw [if_pos h5]
      by_cases h6 : KndsOk c0 x.2.2
      ·rw [if_pos h6]; exact .inl ⟨⟨by omega, h2, h3, by omega, h5, h6⟩, f2⟩
      ·rw [if_neg h6]; exact .inr ⟨fun h => h6 h.2.2.2.2.2, f1⟩
     ·rw [if_neg h5]; exact .inr ⟨fun h => h5 h.2.2.2.2.1, f1⟩
   ·rw [if_neg h3]; exact .inr ⟨fun h => h3 h.2.2.1, f1⟩
  by_cases h2 : (0 : Int) < i
  ·have j1 : ((i : Int) - 1).toNat = i - 1 := by omega
   have j0 : (0 : Int) ≤ (i : Int) - 1 := by omega
   have jl : i - 1 < m7.length := by omega
   rw [if_pos h2]
   simp (discharger := omega) only [wI, j0, decide_true, grdO_t, j1]
   rw [atO_gd (0, [], []) jl]
   by_cases h3 : x.1 ≤ (m7.getD (i - 1) (0, [], [])).1
   ·rw [if_pos h3]
    exact .inr ⟨fun h => by have := h.2.1 (by omega); omega, rfl⟩
   ·rw [if_neg h3]
    refine hrest (fun _ => by omega) (bindE · _) rfl ?_
    simp only [bindE_l]
    rw [wI (by omega) (by omega)]; rfl
  ·rw [if_neg h2]
   refine hrest (fun h => absurd h (by omega)) (bindE · _) rfl ?_
   simp only [bindE_l]
   rw [wI (by omega) (by omega)]; rfl
 ·intro h
  exact sd (iff_of_true rfl h)
 ·intro h
  exact sd (iff_of_false (by simp) h)
end Go.Proofs.YtdpapeledldifaaGreat
end
section
namespace Go.Proofs.YtdpapeledldifaaGreat
open Go Go.AM Go.TM Go.Stow
theorem q178 (c : Cls) (m : Mth) (hp : bndP c.1) (hm : 0 ≤ m.1 ∧ m.1 ≤ 255) (hb : bMth m) : F178 (c, m) = some (decide (¬ has m.1 8 → BodyOk c.1 m)) := by
 have z245 := q245 c m hp hm
 obtain ⟨c0, c1, c2, c3, c4, c5, c6⟩ := c
 obtain ⟨m0, m1, m2, m3, m4, m5, m6, m7⟩ := m
 obtain ⟨hm0, hm1⟩ := hm
 obtain ⟨b1, b2, b3, b4⟩ := hb
 simp only at hp hm0 hm1 b1 b2 b3 b4 z245
 have hlen := opsV_len m5
 have hB : BodyOk c0 (m0, m1, m2, m3, m4, m5, m6, m7) ↔ ((opsV m5).2 = true ∧ m3 ≤ 8 ∧ (takes c0 (m0, m1, m2, m3, m4, m5, m6, m7) ≤ m4 ∧ m4 ≤ 8) ∧ (∀ x ∈ (opsV m5).1, InsOk c0 m4 (opsV m5).1 x) ∧ (∀ t ∈ m6, TrapOk c0 m5.length (opsV m5).1 t) ∧ FrmsOk c0 (m0, m1, m2, m3, m4, m5, m6, m7) (opsV m5).1) := Iff.rfl
 simp only [F178, q108 hm0 hm1 (show (1 : Int) ≤ 8 by omega), q193 _ b1, bindO_s, cndO_d, cndO_n]
 by_cases h0 : has m0 8
 ·rw [if_pos h0]
  exact sd (iff_of_true rfl fun h => absurd h0 h)
 rw [if_neg h0]
 have hgo : ∀ b : Bool, (b = true ↔ BodyOk c0 (m0, m1, m2, m3, m4, m5, m6, m7)) → some b = some (decide (¬ has m0 8 → BodyOk c0 (m0, m1, m2, m3, m4, m5, m6, m7))) := fun b hb => sd (hb.trans ⟨fun h _ => h, fun h => h h0⟩)
 generalize hv : opsV m5 = v at hlen hB
 obtain ⟨ops, ok⟩ := v
 simp only at hlen hB ⊢
 have hol : ops.length ≤ 1048576 := by omega
 cases ok with
 | false =>
  rw [cndO_f, bindE_r]
  exact hgo false (by rw [hB]; exact iff_of_false (by simp) fun h => by cases h.1)
 | true =>
  rw [cndO_t]
  by_cases h1 : 8 < m3
  ·rw [if_pos h1, bindE_r]
   exact hgo false (by rw [hB]; exact iff_of_false (by simp) fun h => by omega)
  rw [if_neg h1, z245, bindO_s]
  simp only [eq_self, decide_true, grdO_t, seqU_s, q107, bindO_s, cndO_d]
  by_cases h2 : takes c0 (m0, m1, m2, m3, m4, m5, m6, m7) ≤ m4 ∧ m4 ≤ 8
  ·rw [if_pos h2, bindE_l]
   simp only
   refine ask_r (fun i => (ops, (i : Int), (c0, c1, c2, c3, c4, c5, c6), m0, m1, m2, m3, m4, m5, m6, m7)) (ops, (c0, c1, c2, c3, c4, c5, c6), m0, m1, m2, m3, m4, m5, m6, m7) false ops.length (fun i => InsOk c0 m4 ops (ops.getD i (0, 0, 0))) rfl ?_ ?_ ?_ ?_
   ·simp only [Int.lt_irrefl, if_false]
   ·intro i hi
    have i1 : (i : Int) < ops.length := by omega
    have i0 : (0 : Int) ≤ i := by omega
    simp only [i1, i0, if_true, decide_true, Bool.and_self, grdO_t, Int.toNat_natCast]
    rw [atO_gd (0, 0, 0) hi]
    generalize ops.getD i (0, 0, 0) = x
    have z := q246 (c0, c1, c2, c3, c4, c5, c6) (m0, m1, m2, m3, m4, m5, m6, m7) ops x hp hol
    rw [show ((x.1, x.2.1, x.2.2) : InsP) = x from rfl, z]
    simp only [bindO_s, cndO_d]
    by_cases h : InsOk c0 m4 ops x
    ·rw [if_pos h, wI (by omega) (by omega)]; exact .inl ⟨h, rfl⟩
    ·rw [if_neg h]; exact .inr ⟨h, rfl⟩
   ·intro hins
    have hins := (all_getD (P := fun x => InsOk c0 m4 ops x) (0, 0, 0)).2 hins
    simp only
    refine ask_r (fun i => (ops, (i : Int), (c0, c1, c2, c3, c4, c5, c6), m0, m1, m2, m3, m4, m5, m6, m7)) (ops, (c0, c1, c2, c3, c4, c5, c6), m0, m1, m2, m3, m4, m5, m6, m7) false m6.length (fun i => TrapOk c0 m5.length ops (m6.getD i (0, 0, 0, 0))) rfl ?_ ?_ ?_ ?_
    ·simp only [Int.lt_irrefl, if_false]
    ·intro i hi
     have i1 : (i : Int) < m6.length := by omega
     have i0 : (0 : Int) ≤ i := by omega
     simp only [i1, i0, if_true, decide_true, Bool.and_self, grdO_t, Int.toNat_natCast]
     rw [atO_gd (0, 0, 0, 0) hi]
     generalize m6.getD i (0, 0, 0, 0) = x
     have z := q247 (c0, c1, c2, c3, c4, c5, c6) (m0, m1, m2, m3, m4, m5, m6, m7) ops x hp hol
     rw [show ((x.1, x.2.1, x.2.2.1, x.2.2.2) : Trp) = x from rfl, z]
     simp only [bindO_s, cndO_d]
     by_cases h : TrapOk c0 m5.length ops x
     ·rw [if_pos h, wI (by omega) (by omega)]; exact .inl ⟨h, rfl⟩
     ·rw [if_neg h]; exact .inr ⟨h, rfl⟩
    ·intro htr
     have htr := (all_getD (P := fun x => TrapOk c0 m5.length ops x) (0, 0, 0, 0)).2 htr
     have z := q248 (c0, c1, c2, c3, c4, c5, c6) (m0, m1, m2, m3, m4, m5, m6, m7) ops hp hol b3 b4
     simp only
     rw [z, bindO_s]
     refine hgo _ ?_
     rw [hB, decide_eq_true_iff]
     exact ⟨fun h => ⟨rfl, by omega, h2, hins, htr, h⟩, fun h => h.2.2.2.2.2⟩
    ·intro htr
     exact hgo false (by rw [hB]; exact iff_of_false (by simp) fun h => htr ((all_getD (P := fun x => TrapOk c0 m5.length ops x) (0, 0, 0, 0)).1 h.2.2.2.2.1))
   ·intro hins
    exact hgo false (by rw [hB]; exact iff_of_false (by simp) fun h => hins ((all_getD (P := fun x => InsOk c0 m4 ops x) (0, 0, 0)).1 h.2.2.2.1))
  ·rw [if_neg h2, bindE_r]
   exact hgo false (by rw [hB]; exact iff_of_false (by simp) fun h => h2 h.2.2.1)
theorem q173 (l : List InsP) (a : Int) (hl : l.length ≤ 1048576) : F173 (l, a) = some (opI l a) := by
 have e : F242240 (l, a) = some (opI l a, a) := by
  simp only [F242240, cndO_d]
  refine (find_loop (fun i => (l, (l.length : Int), (i : Int), a)) a l (fun x => decide (x.1 = a)) (fun i => ((i : Int), a)) rfl ?_ ?_).trans ?_
  ·simp only [Int.lt_irrefl, if_false]
  ·intro i hi
   have i1 : (i : Int) < l.length := by omega
   have i0 : (0 : Int) ≤ i := by omega
   simp (discharger := omega) only [i1, i0, if_true, decide_true, grdO_t, Int.toNat_natCast, atO_get, wI, decide_eq_true_eq, F241, bindO_s, cndO_d]
   split <;> rfl
  ·unfold opI
   cases l.findIdx? (fun x => decide (x.1 = a)) <;> rfl
 simp only [F173, e, bindO_s]
theorem q171 (op : Int) : F171 op = some (want op) := by
 simp only [F171, q89, bindO_s, cndO_d, cndO_t, bindE_if, bindE_l, bindE_r]
 unfold want
 repeat' split
 all_goals first | rfl | (exfalso; omega)
theorem q174 (c : Cls) (l : List Knd) (hp : bndP c.1) (hok : PoolOk c.1) (hl : l.length ≤ 1048576) (hk : ∀ k ∈ l, 0 ≤ k.1 ∧ k.1 ≤ 3) : F174 (c, l) = some (decide (KndsOk c.1 l)) := by
 obtain ⟨c0, c1, c2, c3, c4, c5, c6⟩ := c
 simp only at hp hok
 simp only [F174, F244242, F244290]
 have hk' := (all_getD (P := fun k : Knd => 0 ≤ k.1 ∧ k.1 ≤ 3) (0, 0)).1 hk
 have key := any_r (f := (fun (x : List Knd × Int × Int × Cls) => cndO (decide (x.2.2.1 < x.2.1))
    (grdO (decide (0 ≤ x.2.2.1)) (atO x.1 (Int.toNat x.2.2.1) fun y => bindO (F243 ((y.1, y.2), x.2.2.2.1, x.2.2.2.2.1, x.2.2.2.2.2.1, x.2.2.2.2.2.2.1, x.2.2.2.2.2.2.2.1, x.2.2.2.2.2.2.2.2.1, x.2.2.2.2.2.2.2.2.2)) fun z =>
    cndO z.1 (some (.inr (.inr (x.2.2.1, z.2)))) (some (.inl (x.1, x.2.1, IntKind.wrap .i64 (x.2.2.1 + 1), z.2)))))
    (some (.inr (.inl (x.2.2.2.1, x.2.2.2.2.1, x.2.2.2.2.2.1, x.2.2.2.2.2.2.1, x.2.2.2.2.2.2.2.1, x.2.2.2.2.2.2.2.2.1, x.2.2.2.2.2.2.2.2.2))))))
  (fun k => (l, (l.length : Int), (k : Int), c0, c1, c2, c3, c4, c5, c6)) (c0, c1, c2, c3, c4, c5, c6) (fun k => ((k : Int), c0, c1, c2, c3, c4, c5, c6)) l.length (fun k => ¬ KndOk c0 (l.getD k (0, 0))) (x0 := (l, (l.length : Int), 0, c0, c1, c2, c3, c4, c5, c6)) (k := fun x => some ((-1 : Int), x)) rfl ?_ ?_
 ·rcases key with ⟨h1, h2⟩ | ⟨k, h1, h2, h3⟩
  ·rw [bindO_of h2]
   exact sd (iff_of_true rfl ((all_getD (0, 0)).2 fun i hi => Classical.not_not.1 (h1 i hi)))
  ·rw [bindO_of h3]
   refine sd (iff_of_false ?_ fun h => h2 ((all_getD (0, 0)).1 h k h1))
   simp
 ·simp only [Int.lt_irrefl, decide_false, cndO_f]
 ·intro k hkl
  have k1 : (k : Int) < l.length := by omega
  have k0 : (0 : Int) ≤ k := by omega
  simp only [k1, k0, decide_true, cndO_t, grdO_t, Int.toNat_natCast]
  rw [atO_gd (0, 0) hkl]
  have hr := hk' k hkl
  generalize l.getD k (0, 0) = x at hr
  have hK : KndOk c0 x ↔ ((0 ≤ x.1 ∧ x.1 ≤ 3) ∧ (x.1 = 3 → ClsAt c0 x.2) ∧ (x.1 ≠ 3 → x.2 = 0)) := Iff.rfl
  have z162 : F162 ((c0, c1, c2, c3, c4, c5, c6), x.2) = some (decide ((entAt c0 x.2).1 = 2)) := q162 (c0, c1, c2, c3, c4, c5, c6) x.2 hp
  have z : F243 ((x.1, x.2), c0, c1, c2, c3, c4, c5, c6) = some (decide (¬ KndOk c0 x), c0, c1, c2, c3, c4, c5, c6) := by
   simp only [F243, z162, bindO_s, cndO_n, cndO_d]
   by_cases h1 : x.1 = 3
   ·rw [if_pos h1]
    by_cases h2 : (entAt c0 x.2).1 = 2
    ·rw [if_pos h2, if_pos h1, decide_eq_false fun h => h (hK.2 ⟨hr, fun _ => hok.cls.2 h2, fun h => absurd h1 h⟩)]
    ·rw [if_neg h2, decide_eq_true (p := ¬ KndOk c0 x) fun h => h2 ((hK.1 h).2.1 h1).1]
   ·rw [if_neg h1, if_neg h1]
    by_cases h2 : x.2 = 0
    ·rw [decide_eq_true h2, decide_eq_false fun h => h (hK.2 ⟨hr, fun h => absurd h h1, fun _ => h2⟩)]; rfl
    ·rw [decide_eq_false h2, decide_eq_true (p := ¬ KndOk c0 x) fun h => h2 ((hK.1 h).2.2 h1)]; rfl
  refine (show ¬ KndOk c0 x ∧ _ = _ ∨ _ from ?_)
  rw [z]
  simp only [bindO_s, cndO_d]
  rw [wI (by omega) (by omega)]
  by_cases e : ¬ KndOk c0 x
  ·rw [if_pos e]; exact .inl ⟨e, rfl⟩
  ·rw [if_neg e]; exact .inr ⟨e, rfl⟩
end Go.Proofs.YtdpapeledldifaaGreat
end
section
namespace Go.Proofs.YtdpapeledldifaaGreat
open Go Go.AM Go.TM Go.Stow
theorem q87 (c : Cls) (m : Mth) (hp : bndP c.1) (hok : PoolOk c.1) (hm : 0 ≤ m.1 ∧ m.1 ≤ 255) (hb : bMth m) (h120 : m.2.2.2.2.2.1.length ≤ 120) (hfr : ∀ f ∈ m.2.2.2.2.2.2.2, fFrm f) (hd : TxtAt c.1 m.2.2.1 Dsc) : F87 (c, m) = some (decide (BodyOk c.1 m)) := by
 obtain ⟨c0, c1, c2, c3, c4, c5, c6⟩ := c
 obtain ⟨m0, m1, m2, m3, m4, m5, m6, m7⟩ := m
 obtain ⟨hm0, hm1⟩ := hm
 obtain ⟨b1, b2, b3, b4⟩ := hb
 simp only at hp hok hm0 hm1 b1 b2 b3 b4 h120 hfr hd
 have hlen := opsV_len m5
 have hB : BodyOk c0 (m0, m1, m2, m3, m4, m5, m6, m7) ↔ ((opsV m5).2 = true ∧ m3 ≤ 8 ∧ (takes c0 (m0, m1, m2, m3, m4, m5, m6, m7) ≤ m4 ∧ m4 ≤ 8) ∧ (∀ x ∈ (opsV m5).1, InsOk c0 m4 (opsV m5).1 x) ∧ (∀ t ∈ m6, TrapOk c0 m5.length (opsV m5).1 t) ∧ FrmsOk c0 (m0, m1, m2, m3, m4, m5, m6, m7) (opsV m5).1) := Iff.rfl
 have z111 : ∀ i, F111 ((c0, c1, c2, c3, c4, c5, c6), i) = some (nameI c0 i) := fun i => q111 (c0, c1, c2, c3, c4, c5, c6) i hp
 have z162 : ∀ i, F162 ((c0, c1, c2, c3, c4, c5, c6), i) = some (decide ((entAt c0 i).1 = 2)) := fun i => q162 (c0, c1, c2, c3, c4, c5, c6) i hp
 have z124 : ∀ k, F124 (c0, k) = some (entAt c0 k) := fun k => q124 c0 k hp.1
 have hdl := dsc_len (txt c0 m2)
 have hT : takes c0 (m0, m1, m2, m3, m4, m5, m6, m7) = if has m0 1 then ((dsc (txt c0 m2)).1.length : Int) else (dsc (txt c0 m2)).1.length + 1 := rfl
 simp only [F87, q31 _ h120, z111, nameI_txt hd.1, n170 _ (txt_len hp _), bindO_s, cndO_d, cndO_n, and1p hm0 hm1]
 rw [show (if ¬ has m0 1 then some (Sum.inl ((opsV m5).1, (opsV m5).2, IntKind.wrap .i64 (((dsc (txt c0 m2)).1.length : Int) + 1), (c0, c1, c2, c3, c4, c5, c6), m0, m1, m2, m3, m4, m5, m6, m7)) else some (Sum.inl ((opsV m5).1, (opsV m5).2, ((dsc (txt c0 m2)).1.length : Int), (c0, c1, c2, c3, c4, c5, c6), m0, m1, m2, m3, m4, m5, m6, m7)) : Option ((List InsP × Bool × Int × Cls × Mth) ⊕ Bool)) = some (Sum.inl ((opsV m5).1, (opsV m5).2, takes c0 (m0, m1, m2, m3, m4, m5, m6, m7), (c0, c1, c2, c3, c4, c5, c6), m0, m1, m2, m3, m4, m5, m6, m7)) by
  rw [hT]
  by_cases h : has m0 1
  ·rw [if_neg (by simp [h]), if_pos h]
  ·rw [if_pos h, if_neg h, wI (by omega) (by omega)], bindE_l]
 generalize takes c0 (m0, m1, m2, m3, m4, m5, m6, m7) = need at hB
 generalize hv : opsV m5 = v at hlen hB
 obtain ⟨ops, ok⟩ := v
 simp only at hlen hB ⊢
 have hol : ops.length ≤ 1048576 := by omega
 cases ok with
 | false =>
  rw [cndO_f, bindE_r]
  exact sd (by rw [hB]; exact iff_of_false (by simp) fun h => by cases h.1)
 | true =>
  rw [cndO_t]
  by_cases h1 : 8 < m3
  ·rw [if_pos h1, bindE_r]
   exact sd (by rw [hB]; exact iff_of_false (by simp) fun h => by omega)
  rw [if_neg h1]
  simp only [q89, bindO_s, cndO_d]
  by_cases h2 : need ≤ m4 ∧ m4 ≤ 8
  ·rw [if_pos h2, bindE_l]
   simp only
   refine ask_r (fun i => ((ops.length : Int), (i : Int), (c0, c1, c2, c3, c4, c5, c6), (m0, m1, m2, m3, m4, m5, m6, m7), ops)) (ops, (c0, c1, c2, c3, c4, c5, c6), m0, m1, m2, m3, m4, m5, m6, m7) false ops.length (fun i => InsOk c0 m4 ops (ops.getD i (0, 0, 0))) rfl ?_ ?_ ?_ ?_
   ·simp only [Int.lt_irrefl, if_false]
   ·intro i hi
    have i1 : (i : Int) < ops.length := by omega
    have i0 : (0 : Int) ≤ i := by omega
    simp only [i1, i0, if_true, decide_true, Bool.and_self, grdO_t, Int.toNat_natCast]
    rw [atO_gd (0, 0, 0) hi]
    generalize ops.getD i (0, 0, 0) = x
    obtain ⟨x0, x1, x2⟩ := x
    have hI : InsOk c0 m4 ops (x0, x1, x2) ↔ ((3 ≤ x1 ∧ x1 ≤ 6 → x2 < m4) ∧ (14 ≤ x1 ∧ x1 ≤ 18 → 0 ≤ opI ops x2) ∧ (want x1 ≠ 0 → (entAt c0 x2).1 = want x1)) := Iff.rfl
    rw [hI]
    simp only [q171, F172, q89, q173 _ _ hol, z124, bindO_s, cndO_d, cndO_n]
    have hfin : ∀ F : Option ((Int × Int × Cls × Mth × List InsP) ⊕ ((Int × Int × Cls × Mth × List InsP) ⊕ ((List InsP × Cls × Mth) ⊕ Bool))) → Option ((Int × Int × Cls × Mth × List InsP) ⊕ ((List InsP × Cls × Mth) ⊕ Bool)),
      F (some (.inr (.inr (.inr false)))) = some (.inr (.inr false)) → F (some (.inl ((ops.length : Int), (i : Int), (c0, c1, c2, c3, c4, c5, c6), (m0, m1, m2, m3, m4, m5, m6, m7), ops))) = some (.inl ((ops.length : Int), ((i + 1 : Nat) : Int), (c0, c1, c2, c3, c4, c5, c6), (m0, m1, m2, m3, m4, m5, m6, m7), ops)) →
      (3 ≤ x1 ∧ x1 ≤ 6 → x2 < m4) → (14 ≤ x1 ∧ x1 ≤ 18 → 0 ≤ opI ops x2) →
      (((3 ≤ x1 ∧ x1 ≤ 6 → x2 < m4) ∧ (14 ≤ x1 ∧ x1 ≤ 18 → 0 ≤ opI ops x2) ∧ (want x1 ≠ 0 → (entAt c0 x2).1 = want x1)) ∧ F (if want x1 = 0 then some (.inl ((ops.length : Int), (i : Int), (c0, c1, c2, c3, c4, c5, c6), (m0, m1, m2, m3, m4, m5, m6, m7), ops)) else if (entAt c0 x2).1 = want x1 then some (.inl ((ops.length : Int), (i : Int), (c0, c1, c2, c3, c4, c5, c6), (m0, m1, m2, m3, m4, m5, m6, m7), ops)) else some (.inr (.inr (.inr false)))) = some (.inl ((ops.length : Int), ((i + 1 : Nat) : Int), (c0, c1, c2, c3, c4, c5, c6), (m0, m1, m2, m3, m4, m5, m6, m7), ops))) ∨
      (¬ ((3 ≤ x1 ∧ x1 ≤ 6 → x2 < m4) ∧ (14 ≤ x1 ∧ x1 ≤ 18 → 0 ≤ opI ops x2) ∧ (want x1 ≠ 0 → (entAt c0 x2).1 = want x1)) ∧ F (if want x1 = 0 then some (.inl ((ops.length : Int), (i : Int), (c0, c1, c2, c3, c4, c5, c6), (m0, m1, m2, m3, m4, m5, m6, m7), ops)) else if (entAt c0 x2).1 = want x1 then some (.inl ((ops.length : Int), (i : Int), (c0, c1, c2, c3, c4, c5, c6), (m0, m1, m2, m3, m4, m5, m6, m7), ops)) else some (.inr (.inr (.inr false)))) = some (.inr (.inr false))) := by
     intro F f1 f2 k1 k2
     by_cases h3 : want x1 = 0
     ·rw [if_pos h3]; exact .inl ⟨⟨k1, k2, fun h => absurd h3 h⟩, f2⟩
     ·rw [if_neg h3]
      by_cases h4 : (entAt c0 x2).1 = want x1
      ·rw [if_pos h4]; exact .inl ⟨⟨k1, k2, fun _ => h4⟩, f2⟩
      ·rw [if_neg h4]; exact .inr ⟨fun h => h4 (h.2.2 h3), f1⟩
    have f2 : bindE (some (.inl ((ops.length : Int), (i : Int), (c0, c1, c2, c3, c4, c5, c6), (m0, m1, m2, m3, m4, m5, m6, m7), ops)) : Option ((Int × Int × Cls × Mth × List InsP) ⊕ ((Int × Int × Cls × Mth × List InsP) ⊕ ((List InsP × Cls × Mth) ⊕ Bool)))) (fun x => some (.inl (x.1, IntKind.wrap .i64 (x.2.1 + 1), x.2.2.1, x.2.2.2.1, x.2.2.2.2))) = some (.inl ((ops.length : Int), ((i + 1 : Nat) : Int), (c0, c1, c2, c3, c4, c5, c6), (m0, m1, m2, m3, m4, m5, m6, m7), ops)) := by
     simp only [bindE_l]
     rw [wI (by omega) (by omega)]; rfl
    by_cases k1 : 3 ≤ x1 ∧ x1 ≤ 6
    ·rw [if_pos k1]
     by_cases k2 : m4 ≤ x2
     ·rw [if_pos k2]
      exact .inr ⟨fun h => by have := h.1 k1; omega, rfl⟩
     ·rw [if_neg k2]
      have k3 : ¬ (14 ≤ x1 ∧ x1 ≤ 18) := by omega
      rw [if_neg k3]
      exact hfin (bindE · _) rfl f2 (fun _ => by omega) fun h => absurd h k3
    ·rw [if_neg k1]
     by_cases k3 : 14 ≤ x1 ∧ x1 ≤ 18
     ·rw [if_pos k3]
      by_cases k4 : opI ops x2 < 0
      ·rw [if_pos k4]
       exact .inr ⟨fun h => by have := h.2.1 k3; omega, rfl⟩
      ·rw [if_neg k4]
       exact hfin (bindE · _) rfl f2 (fun h => absurd h k1) fun _ => by omega
     ·rw [if_neg k3]
      exact hfin (bindE · _) rfl f2 (fun h => absurd h k1) fun h => absurd h k3
   ·intro hins
    have hins := (all_getD (P := fun x => InsOk c0 m4 ops x) (0, 0, 0)).2 hins
    simp only
    refine ask_r (fun i => (ops, m6, (m6.length : Int), (i : Int), (c0, c1, c2, c3, c4, c5, c6), m0, m1, m2, m3, m4, m5, m6, m7)) (ops, (c0, c1, c2, c3, c4, c5, c6), m0, m1, m2, m3, m4, m5, m6, m7) false m6.length (fun i => TrapOk c0 m5.length ops (m6.getD i (0, 0, 0, 0))) rfl ?_ ?_ ?_ ?_
    ·simp only [Int.lt_irrefl, if_false]
    ·intro i hi
     have i1 : (i : Int) < m6.length := by omega
     have i0 : (0 : Int) ≤ i := by omega
     simp only [i1, i0, if_true, decide_true, Bool.and_self, grdO_t, Int.toNat_natCast]
     rw [atO_gd (0, 0, 0, 0) hi]
     generalize m6.getD i (0, 0, 0, 0) = x
     obtain ⟨t0, t1, t2, t3⟩ := x
     have hI : TrapOk c0 m5.length ops (t0, t1, t2, t3) ↔ (t0 < t1 ∧ 0 ≤ opI ops t0 ∧ (t1 = (m5.length : Int) ∨ 0 ≤ opI ops t1) ∧ 0 ≤ opI ops t2 ∧ (t3 = 0 ∨ ClsAt c0 t3)) := Iff.rfl
     rw [hI]
     simp only [q173 _ _ hol, z162, bindO_s, cndO_d, cndO_n]
     have f2 : bindE (some (.inl (ops, m6, (m6.length : Int), (i : Int), (c0, c1, c2, c3, c4, c5, c6), m0, m1, m2, m3, m4, m5, m6, m7)) : Option ((List InsP × List Trp × Int × Int × Cls × Mth) ⊕ ((List InsP × List Trp × Int × Int × Cls × Mth) ⊕ ((List InsP × Cls × Mth) ⊕ Bool)))) (fun x => some (.inl (x.1, x.2.1, x.2.2.1, IntKind.wrap .i64 (x.2.2.2.1 + 1), x.2.2.2.2.1, x.2.2.2.2.2))) = some (.inl (ops, m6, (m6.length : Int), ((i + 1 : Nat) : Int), (c0, c1, c2, c3, c4, c5, c6), m0, m1, m2, m3, m4, m5, m6, m7)) := by
      simp only [bindE_l]
      rw [wI (by omega) (by omega)]; rfl
     by_cases k1 : t1 ≤ t0
     ·rw [if_pos k1]; exact .inr ⟨fun h => by omega, rfl⟩
     rw [if_neg k1]
     by_cases k2 : opI ops t0 < 0
     ·rw [if_pos k2]; exact .inr ⟨fun h => by omega, rfl⟩
     rw [if_neg k2]
     by_cases k3 : opI ops t2 < 0
     ·rw [if_pos k3]; exact .inr ⟨fun h => by omega, rfl⟩
     rw [if_neg k3]
     by_cases k4 : opI ops t1 < 0
     ·rw [if_pos k4]
      by_cases k5 : t1 = (m5.length : Int)
      ·rw [if_pos k5]
       by_cases k6 : t3 = 0
       ·rw [if_pos k6]; exact .inl ⟨⟨by omega, by omega, .inl k5, by omega, .inl k6⟩, f2⟩
       ·rw [if_neg k6]
        by_cases k7 : (entAt c0 t3).1 = 2
        ·rw [if_pos k7]; exact .inl ⟨⟨by omega, by omega, .inl k5, by omega, .inr (hok.cls.2 k7)⟩, f2⟩
        ·rw [if_neg k7]; exact .inr ⟨fun h => k7 (h.2.2.2.2.resolve_left k6).1, rfl⟩
      ·rw [if_neg k5]; exact .inr ⟨fun h => h.2.2.1.elim k5 fun h => by omega, rfl⟩
     ·rw [if_neg k4]
      by_cases k6 : t3 = 0
      ·rw [if_pos k6]; exact .inl ⟨⟨by omega, by omega, .inr (by omega), by omega, .inl k6⟩, f2⟩
      ·rw [if_neg k6]
       by_cases k7 : (entAt c0 t3).1 = 2
       ·rw [if_pos k7]; exact .inl ⟨⟨by omega, by omega, .inr (by omega), by omega, .inr (hok.cls.2 k7)⟩, f2⟩
       ·rw [if_neg k7]; exact .inr ⟨fun h => k7 (h.2.2.2.2.resolve_left k6).1, rfl⟩
    ·intro htr
     have htr := (all_getD (P := fun x => TrapOk c0 m5.length ops x) (0, 0, 0, 0)).2 htr
     simp only
     refine ask_r (fun i => (ops, (if i = 0 then (-1 : Int) else (m7.getD (i - 1) (0, [], [])).1), m7, (m7.length : Int), (i : Int), (c0, c1, c2, c3, c4, c5, c6), m0, m1, m2, m3, m4, m5, m6, m7)) () false m7.length (FrmOk c0 (m0, m1, m2, m3, m4, m5, m6, m7) ops) rfl ?_ ?_ ?_ ?_
     ·simp only [Int.lt_irrefl, if_false]
     ·intro i hi
      have i1 : (i : Int) < m7.length := by omega
      have i0 : (0 : Int) ≤ i := by omega
      have hF : FrmOk c0 (m0, m1, m2, m3, m4, m5, m6, m7) ops i ↔ (0 ≤ opI ops (m7.getD i (0, [], [])).1 ∧ (0 < i → (m7.getD (i - 1) (0, [], [])).1 < (m7.getD i (0, [], [])).1) ∧ ((m7.getD i (0, [], [])).2.1.length : Int) = m4 ∧ ((m7.getD i (0, [], [])).2.2.length : Int) ≤ m3 ∧ KndsOk c0 (m7.getD i (0, [], [])).2.1 ∧ KndsOk c0 (m7.getD i (0, [], [])).2.2) := Iff.rfl
      have hff : fFrm (m7.getD i (0, [], [])) := (all_getD (P := fFrm) (0, [], [])).1 hfr i hi
      have hnx : ∀ y : Int, y = (m7.getD i (0, [], [])).1 → y = (if i + 1 = 0 then (-1 : Int) else (m7.getD (i + 1 - 1) (0, [], [])).1) := by
       intro y hy; rw [if_neg (by omega), Nat.add_sub_cancel]; exact hy
      simp only [i1, i0, if_true, decide_true, grdO_t, Int.toNat_natCast]
      rw [atO_gd (0, [], []) hi]
      rw [hF]
      generalize m7.getD i (0, [], []) = x at hff hnx
      have hpr : (x.1 ≤ (if i = 0 then (-1 : Int) else (m7.getD (i - 1) (0, [], [])).1)) ↔ ¬ (0 < i → (m7.getD (i - 1) (0, [], [])).1 < x.1) := by
       have := hff.1.1
       by_cases h0 : i = 0
       ·rw [if_pos h0]
        exact iff_of_false (by omega) fun h => h fun h' => absurd h' (by omega)
       ·rw [if_neg h0]
        exact ⟨fun h h' => by have := h' (by omega); omega, fun h => Classical.byContradiction fun h' => h fun _ => by omega⟩
      generalize (if i = 0 then (-1 : Int) else (m7.getD (i - 1) (0, [], [])).1) = before at hpr
      have z1 : F174 ((c0, c1, c2, c3, c4, c5, c6), x.2.1) = some (decide (KndsOk c0 x.2.1)) := q174 (c0, c1, c2, c3, c4, c5, c6) x.2.1 hp hok (by have := hff.2.1.1; omega) fun k hk => (hff.2.1.2 k hk).1
      have z2 : F174 ((c0, c1, c2, c3, c4, c5, c6), x.2.2) = some (decide (KndsOk c0 x.2.2)) := q174 (c0, c1, c2, c3, c4, c5, c6) x.2.2 hp hok (by have := hff.2.2.1; omega) fun k hk => (hff.2.2.2 k hk).1
      simp only [q173 _ _ hol, z1, z2, bindO_s, cndO_n, cndO_d]
      by_cases k1 : opI ops x.1 < 0
      ·rw [if_pos k1]; exact .inr ⟨fun h => by omega, rfl⟩
      rw [if_neg k1]
      by_cases k2 : x.1 ≤ before
      ·rw [if_pos k2]; exact .inr ⟨fun h => (hpr.1 k2) h.2.1, rfl⟩
      rw [if_neg k2]
      have k2' := Classical.not_not.1 fun h => k2 (hpr.2 h)
      by_cases k3 : (x.2.1.length : Int) = m4
      ·rw [if_pos k3]
       by_cases k4 : m3 < (x.2.2.length : Int)
       ·rw [if_pos k4]; exact .inr ⟨fun h => by omega, rfl⟩
       rw [if_neg k4]
       by_cases k5 : KndsOk c0 x.2.1
       ·rw [if_pos k5]
        by_cases k6 : KndsOk c0 x.2.2
        ·rw [if_pos k6]
         refine .inl ⟨⟨by omega, k2', k3, by omega, k5, k6⟩, ?_⟩
         simp only [bindE_l]
         rw [wI (by omega) (by omega), ← hnx x.1 rfl]; rfl
        ·rw [if_neg k6]; exact .inr ⟨fun h => k6 h.2.2.2.2.2, rfl⟩
       ·rw [if_neg k5]; exact .inr ⟨fun h => k5 h.2.2.2.2.1, rfl⟩
      ·rw [if_neg k3]; exact .inr ⟨fun h => k3 h.2.2.1, rfl⟩
     ·intro h
      exact sd (by rw [hB]; exact iff_of_true rfl ⟨rfl, by omega, h2, hins, htr, h⟩)
     ·intro h
      exact sd (by rw [hB]; exact iff_of_false (by simp) fun h' => h h'.2.2.2.2.2)
    ·intro htr
     exact sd (by rw [hB]; exact iff_of_false (by simp) fun h => htr ((all_getD (P := fun x => TrapOk c0 m5.length ops x) (0, 0, 0, 0)).1 h.2.2.2.2.1))
   ·intro hins
    exact sd (by rw [hB]; exact iff_of_false (by simp) fun h => hins ((all_getD (P := fun x => InsOk c0 m4 ops x) (0, 0, 0)).1 h.2.2.2.1))
  ·rw [if_neg h2, bindE_r]
   exact sd (by rw [hB]; exact iff_of_false (by simp) fun h => h2 h.2.2.1)
end Go.Proofs.YtdpapeledldifaaGreat
end
section
namespace Go.Stow
theorem chkV_2 {c : ClsP} (h : ¬ poolC c.1 c.1.length 0 = 0) : chkV c = 2 := by unfold chkV; rw [if_pos h]
theorem chkV_3 {c : ClsP} (h1 : poolC c.1 c.1.length 0 = 0) (h2 : ¬ HeadOk c) : chkV c = 3 := by
 unfold chkV; rw [if_neg (show ¬ poolC c.1 c.1.length 0 ≠ 0 from fun h => h h1), if_pos h2]
theorem chkV_4 {c : ClsP} (h1 : poolC c.1 c.1.length 0 = 0) (h2 : HeadOk c) (h3 : ¬ FldsOk c) : chkV c = 4 := by
 unfold chkV; rw [if_neg (show ¬ poolC c.1 c.1.length 0 ≠ 0 from fun h => h h1), if_neg (show ¬ ¬ HeadOk c from fun h => h h2), if_pos h3]
theorem chkV_5 {c : ClsP} (h1 : poolC c.1 c.1.length 0 = 0) (h2 : HeadOk c) (h3 : FldsOk c) (h4 : ¬ MthsOk c) : chkV c = 5 := by
 unfold chkV; rw [if_neg (show ¬ poolC c.1 c.1.length 0 ≠ 0 from fun h => h h1), if_neg (show ¬ ¬ HeadOk c from fun h => h h2), if_neg (show ¬ ¬ FldsOk c from fun h => h h3), if_pos h4]
theorem chkV_6 {c : ClsP} (h1 : poolC c.1 c.1.length 0 = 0) (h2 : HeadOk c) (h3 : FldsOk c) (h4 : MthsOk c) (h5 : ¬ BodsOk c) : chkV c = 6 := by
 unfold chkV; rw [if_neg (show ¬ poolC c.1 c.1.length 0 ≠ 0 from fun h => h h1), if_neg (show ¬ ¬ HeadOk c from fun h => h h2), if_neg (show ¬ ¬ FldsOk c from fun h => h h3), if_neg (show ¬ ¬ MthsOk c from fun h => h h4), if_pos h5]
theorem chkV_0 {c : ClsP} (h1 : poolC c.1 c.1.length 0 = 0) (h2 : HeadOk c) (h3 : FldsOk c) (h4 : MthsOk c) (h5 : BodsOk c) : chkV c = 0 := by
 unfold chkV; rw [if_neg (show ¬ poolC c.1 c.1.length 0 ≠ 0 from fun h => h h1), if_neg (show ¬ ¬ HeadOk c from fun h => h h2), if_neg (show ¬ ¬ FldsOk c from fun h => h h3), if_neg (show ¬ ¬ MthsOk c from fun h => h h4), if_neg (show ¬ ¬ BodsOk c from fun h => h h5)]
end Go.Stow
namespace Go.Proofs.YtdpapeledldifaaGreat
open Go Go.AM Go.TM Go.Stow
theorem fit_bnd {c : Cls} (h : fCls c) : bndP c.1 := by
 obtain ⟨⟨f1, _⟩, h1, _⟩ := h
 exact ⟨by omega, fun x hx => by have := (h1 x hx).2.1; omega⟩
theorem chk88 (c : Cls) (h : fCls c) : F88 c = some (chkV c) := by
 have hp := fit_bnd h
 have hb := fit_b h
 obtain ⟨⟨f1, f2, f3, f4⟩, _, hfl, _, _, _, _, hms⟩ := h
 have hmf : ∀ m ∈ c.2.2.2.2.2.2, 0 ≤ m.1 ∧ m.1 ≤ 255 := fun m hm => (hms m hm).1
 have z15 := q15 c.1 hp f1
 have z175 := q175 c hp hfl (by omega)
 have z176 := q176 c hp hfl (by omega)
 have z177 := q177 c hp hfl (by omega) hmf
 have hbm := hb.2.2.2.2
 obtain ⟨c0, c1, c2, c3, c4, c5, c6⟩ := c
 simp only at f1 f2 f3 f4 hfl hmf hp z15 hbm
 simp only [F88, z15, z175, z176, z177, bindO_s, cndO_n, cndO_d]
 by_cases h1 : poolC c0 c0.length 0 = 0
 ·rw [if_pos h1]
  by_cases h2 : HeadOk (c0, c1, c2, c3, c4, c5, c6)
  ·rw [if_pos h2]
   by_cases h3 : FldsOk (c0, c1, c2, c3, c4, c5, c6)
   ·rw [if_pos h3]
    by_cases h4 : MthsOk (c0, c1, c2, c3, c4, c5, c6)
    ·rw [if_pos h4]
     refine ask_r (fun i => ((i : Int), c0, c1, c2, c3, c4, c5, c6)) () 6 c6.length (fun i => ¬ has (c6.getD i mth0).1 8 → BodyOk c0 (c6.getD i mth0)) rfl ?_ ?_ ?_ ?_
     ·simp only [Int.lt_irrefl, if_false]
     ·intro i hi
      have i1 : (i : Int) < c6.length := by omega
      have i0 : (0 : Int) ≤ i := by omega
      simp only [i1, i0, if_true, decide_true, grdO_t, Int.toNat_natCast]
      rw [atO_gd mth0 hi]
      have hm1 := (all_getD (P := fun m : Mth => 0 ≤ m.1 ∧ m.1 ≤ 255) mth0).1 hmf i hi
      have hm2 := (all_getD (P := bMth) mth0).1 hbm i hi
      generalize c6.getD i mth0 = x at hm1 hm2
      have z : F178 ((c0, c1, c2, c3, c4, c5, c6), x.1, x.2.1, x.2.2.1, x.2.2.2.1, x.2.2.2.2.1, x.2.2.2.2.2.1, x.2.2.2.2.2.2.1, x.2.2.2.2.2.2.2) = some (decide (¬ has x.1 8 → BodyOk c0 x)) := q178 (c0, c1, c2, c3, c4, c5, c6) x hp hm1 hm2
      rw [z]
      simp only [bindO_s, cndO_d]
      by_cases e : ¬ has x.1 8 → BodyOk c0 x
      ·rw [if_pos e, wI (by omega) (by omega)]; exact .inl ⟨e, rfl⟩
      ·rw [if_neg e]; exact .inr ⟨e, rfl⟩
     ·intro hall
      rw [chkV_0 h1 h2 h3 h4 ((all_getD (P := fun m : Mth => ¬ has m.1 8 → BodyOk c0 m) mth0).2 hall)]
     ·intro hall
      rw [chkV_6 h1 h2 h3 h4 fun h : BodsOk _ => hall ((all_getD (P := fun m : Mth => ¬ has m.1 8 → BodyOk c0 m) mth0).1 h)]
    ·rw [if_neg h4, chkV_5 h1 h2 h3 h4]
   ·rw [if_neg h3, chkV_4 h1 h2 h3]
  ·rw [if_neg h2, chkV_3 h1 h2]
 ·rw [if_neg h1, chkV_2 h1]
theorem put_fit {c : Cls} (h : put c ≠ []) : fCls c := by
 refine Classical.byContradiction fun hn => h (put_no fun hh => hn hh.1)
theorem chk30 (c : Cls) (h : bCls c) : F30 c = some (if put c = [] then 1 else chkV c) := by
 have z := put22 c h
 have z88 := fun hp : put c ≠ [] => chk88 c (put_fit hp)
 obtain ⟨c0, c1, c2, c3, c4, c5, c6⟩ := c
 simp only [F30, z, bindO_s, cndO_d]
 by_cases hp : put (c0, c1, c2, c3, c4, c5, c6) = []
 ·rw [if_pos hp, if_pos hp]
 ·rw [if_neg hp, if_neg hp, z88 hp, bindO_s]
theorem chk29 (c : Cls) (h : bCls c) : F29 c = some (if put c = [] then 1 else chkV c) := by
 have z := put20 c h
 by_cases hpu : put c = []
 ·obtain ⟨c0, c1, c2, c3, c4, c5, c6⟩ := c
  simp only [F29, z, bindO_s, cndO_d]
  rw [if_pos hpu, if_pos hpu]
 have hf := put_fit hpu
 have hp := fit_bnd hf
 have hb := h
 obtain ⟨⟨f1, f2, f3, f4⟩, _, hfl, _, _, _, _, hms⟩ := hf
 have hmf : ∀ m ∈ c.2.2.2.2.2.2, 0 ≤ m.1 ∧ m.1 ≤ 255 := fun m hm => (hms m hm).1
 have z14 := q14 c.1 hp f1
 have z83 := fun hok => q83 c hp hfl (by omega) hok
 have z84 := fun i hi => q84 c i hp hfl (by omega) hi
 have z85 := fun i hi => q85 c i hp hfl (by omega) hmf hi
 have hfi := flds_iff c
 have hmi := mths_iff c
 have hbm := hb.2.2.2.2
 obtain ⟨c0, c1, c2, c3, c4, c5, c6⟩ := c
 simp only at f1 f2 f3 f4 hfl hmf hp z14 hbm z84 z85 hfi hmi hms z83
 simp only [F29, z, z14, bindO_s, cndO_n, cndO_d]
 rw [if_neg hpu, if_neg hpu]
 by_cases h1 : poolC c0 c0.length 0 = 0
 ·rw [if_pos h1]
  have hok := pool_ok.1 h1
  rw [z83 hok, bindO_s, cndO_d]
  by_cases h2 : HeadOk (c0, c1, c2, c3, c4, c5, c6)
  ·rw [if_pos h2]
   refine ask_r (fun i => ((c5.length : Int), (i : Int), c0, c1, c2, c3, c4, c5, c6)) (c0, c1, c2, c3, c4, c5, c6) 4 c5.length (FldOkI (c0, c1, c2, c3, c4, c5, c6)) rfl ?_ ?_ ?_ ?_
   ·simp only [Int.lt_irrefl, if_false]
   ·intro i hi
    have i1 : (i : Int) < c5.length := by omega
    simp only [i1, if_true, z84 i hi, bindO_s, cndO_d]
    by_cases e : FldOkI (c0, c1, c2, c3, c4, c5, c6) i
    ·rw [if_pos e, wI (by omega) (by omega)]; exact .inl ⟨e, rfl⟩
    ·rw [if_neg e]; exact .inr ⟨e, rfl⟩
   ·intro hall0
    simp only
    refine ask_r (fun i => ((c6.length : Int), (i : Int), c0, c1, c2, c3, c4, c5, c6)) (c0, c1, c2, c3, c4, c5, c6) 5 c6.length (MthOkI (c0, c1, c2, c3, c4, c5, c6)) rfl ?_ ?_ ?_ ?_
    ·simp only [Int.lt_irrefl, if_false]
    ·intro i hi
     have i1 : (i : Int) < c6.length := by omega
     simp only [i1, if_true, z85 i hi, bindO_s, cndO_d]
     by_cases e : MthOkI (c0, c1, c2, c3, c4, c5, c6) i
     ·rw [if_pos e, wI (by omega) (by omega)]; exact .inl ⟨e, rfl⟩
     ·rw [if_neg e]; exact .inr ⟨e, rfl⟩
    ·intro hall2
     simp only
     refine ask_r (fun i => (c6, (c6.length : Int), (i : Int), c0, c1, c2, c3, c4, c5, c6)) () 6 c6.length (fun i => ¬ has (c6.getD i mth0).1 8 → BodyOk c0 (c6.getD i mth0)) rfl ?_ ?_ ?_ ?_
     ·simp only [Int.lt_irrefl, if_false]
     ·intro i hi
      have i1 : (i : Int) < c6.length := by omega
      have i0 : (0 : Int) ≤ i := by omega
      simp only [i1, i0, if_true, decide_true, grdO_t, Int.toNat_natCast]
      rw [atO_gd mth0 hi]
      have hm1 := (all_getD (P := fun m : Mth => 0 ≤ m.1 ∧ m.1 ≤ 255) mth0).1 hmf i hi
      have hm2 := (all_getD (P := bMth) mth0).1 hbm i hi
      have hm3 := (all_getD (P := fMth) mth0).1 hms i hi
      have hm4 : TxtAt c0 (c6.getD i mth0).2.2.1 Dsc := (hall2 i hi).2.1
      generalize c6.getD i mth0 = x at hm1 hm2 hm3 hm4
      have z87 : F87 ((c0, c1, c2, c3, c4, c5, c6), x.1, x.2.1, x.2.2.1, x.2.2.2.1, x.2.2.2.2.1, x.2.2.2.2.2.1, x.2.2.2.2.2.2.1, x.2.2.2.2.2.2.2) = some (decide (BodyOk c0 x)) := q87 (c0, c1, c2, c3, c4, c5, c6) x hp hok hm1 hm2 hm3.2.2.2.2.2.1 hm3.2.2.2.2.2.2.2.2 hm4
      rw [q86 _ hm1.1 hm1.2, bindO_s, cndO_d]
      by_cases e1 : has x.1 8
      ·rw [if_pos e1]
       simp only [bindE_l]
       rw [wI (by omega) (by omega)]; exact .inl ⟨fun h => absurd e1 h, rfl⟩
      ·rw [if_neg e1, z87, bindO_s, cndO_d]
       by_cases e : BodyOk c0 x
       ·rw [if_pos e]
        simp only [bindE_l]
        rw [wI (by omega) (by omega)]; exact .inl ⟨fun _ => e, rfl⟩
       ·rw [if_neg e]; exact .inr ⟨fun h => e (h e1), rfl⟩
     ·intro hall
      rw [chkV_0 h1 h2 (hfi.1 hall0) (hmi.1 hall2) ((all_getD (P := fun m : Mth => ¬ has m.1 8 → BodyOk c0 m) mth0).2 hall)]
     ·intro hall
      rw [chkV_6 h1 h2 (hfi.1 hall0) (hmi.1 hall2) fun h : BodsOk _ => hall ((all_getD (P := fun m : Mth => ¬ has m.1 8 → BodyOk c0 m) mth0).1 h)]
    ·intro hall2
     rw [chkV_5 h1 h2 (hfi.1 hall0) fun h => hall2 (hmi.2 h)]
   ·intro hall
    rw [chkV_4 h1 h2 fun h => hall (hfi.2 h)]
  ·rw [if_neg h2, chkV_3 h1 h2]
 ·rw [if_neg h1, chkV_2 h1]
end Go.Proofs.YtdpapeledldifaaGreat
end
section
namespace Go.TM
open Go.AM
section
variable {α X Y R : Type}
def sumW (w : α → Int) : List α → Int
 | [] => 0
 | x :: l => w x + sumW w l
theorem sumW_ran (w : α → Int) (K : Int) : ∀ l : List α, (∀ x ∈ l, 0 ≤ w x ∧ w x ≤ K) → 0 ≤ sumW w l ∧ sumW w l ≤ l.length * K
 | [], _ => by simp [sumW]
 | x :: l, h => by
  have h1 := h x (by simp)
  have h2 := sumW_ran w K l fun y hy => h y (by simp [hy])
  simp only [sumW, List.length_cons]
  have : ((l.length + 1 : Nat) : Int) * K = l.length * K + K := by rw [Int.natCast_add, Int.add_mul]; simp
  rw [this]
  omega
theorem sum_loop {f : X → Option (X ⊕ (Y ⊕ R))} (mk : Int → Nat → X) (fin : Int → Y) (l : List α) (d : α) (w : α → Int) (K M a : Int) (hw : ∀ x ∈ l, 0 ≤ w x ∧ w x ≤ K) {x0 : X} {k : Y → Option R} (hx : x0 = mk a 0) (ha : 0 ≤ a) (hM : a + l.length * K ≤ M)
  (hend : ∀ acc, f (mk acc l.length) = some (.inr (.inl (fin acc))))
  (hstep : ∀ acc i, i < l.length → 0 ≤ acc → acc + K ≤ M → f (mk acc i) = some (.inl (mk (acc + w (l.getD i d)) (i + 1)))) : bindE (whileO f x0) k = k (fin (a + sumW w l)) := by
 have key : ∀ (m i : Nat) (acc : Int), i + m = l.length → 0 ≤ acc → acc + m * K ≤ M → whileO f (mk acc i) = some (.inl (fin (acc + sumW w (l.drop i)))) := by
  intro m
  induction m with
  | zero =>
   intro i acc hi h0 h1
   have : i = l.length := by omega
   subst this
   rw [whileO_eq, hend, List.drop_eq_nil_of_le (Nat.le_refl _)]
   simp [sumW]
  | succ m ih =>
   intro i acc hi h0 h1
   have h : i < l.length := by omega
   have hwi := hw _ (List.getElem_mem h)
   have e : ((m + 1 : Nat) : Int) * K = m * K + K := by rw [Int.natCast_add, Int.add_mul]; simp
   have hmk : 0 ≤ (m : Int) * K := Int.mul_nonneg (by omega) (by omega)
   rw [e] at h1
   have hg : l.getD i d = l[i] := by rw [List.getD_eq_getElem?_getD, List.getElem?_eq_getElem h]; rfl
   rw [whileO_eq, hstep acc i h h0 (by omega), hg]
   simp only
   rw [ih (i + 1) _ (by omega) (by omega) (by omega), drop_cons h]
   simp only [sumW]
   rw [Int.add_assoc]
 rw [hx, key l.length 0 a (by omega) ha (by omega), bindE_l, List.drop_zero]
end
end Go.TM
namespace Go.Proofs.YtdpapeledldifaaGreat
open Go Go.AM Go.TM Go.Stow
def cntF (f : Frm) : Int := (f.2.1.length : Int) + f.2.2.length
def cntM (m : Mth) : Int := sumW cntF m.2.2.2.2.2.2.2
def cntC (c : Cls) : Int := sumW cntM c.2.2.2.2.2.2
theorem cntF_ran (f : Frm) (h : fFrm f) : 0 ≤ cntF f ∧ cntF f ≤ 16 := by
 have := h.2.1.1; have := h.2.2.1
 unfold cntF; omega
theorem cntM_ran (m : Mth) (h : fMth m) : 0 ≤ cntM m ∧ cntM m ≤ 128 := by
 obtain ⟨_, _, _, _, _, _, _, h1, h2⟩ := h
 have := sumW_ran cntF 16 m.2.2.2.2.2.2.2 fun f hf => cntF_ran f (h2 f hf)
 unfold cntM
 omega
noncomputable def many (c : Cls) : Int := if put c = [] then 0 else if chkV c = 0 then cntC c else 0
theorem many24 (c : Cls) (h : bCls c) : F24 c = some (many c) := by
 have z := chk30 c h
 by_cases hpu : put c = []
 ·unfold many
  rw [if_pos hpu] at z
  rw [if_pos hpu]
  obtain ⟨c0, c1, c2, c3, c4, c5, c6⟩ := c
  simp only [F24, z, bindO_s, cndO_n, cndO_d]
  rfl
 rw [if_neg hpu] at z
 unfold many
 rw [if_neg hpu]
 have hf := put_fit hpu
 obtain ⟨⟨f1, f2, f3, f4⟩, _, _, _, _, _, _, hms⟩ := hf
 obtain ⟨c0, c1, c2, c3, c4, c5, c6⟩ := c
 simp only at f4 hms
 simp only [F24, z, bindO_s, cndO_n, cndO_d]
 by_cases h0 : chkV (c0, c1, c2, c3, c4, c5, c6) = 0
 ·rw [if_pos h0, if_pos h0]
  refine (sum_loop (fun acc i => (acc, (i : Int), c0, c1, c2, c3, c4, c5, c6)) (fun acc => acc) c6 mth0 cntM 128 100000 0 (fun m hm => cntM_ran m (hms m hm)) rfl (by omega) (by omega) ?_ ?_).trans ?_
  ·intro acc
   simp only [Int.lt_irrefl, if_false]
  ·intro acc i hi ha0 ha1
   have i1 : (i : Int) < c6.length := by omega
   have i0 : (0 : Int) ≤ i := by omega
   have hm := (all_getD (P := fMth) mth0).1 hms i hi
   simp only [i1, if_true]
   obtain ⟨_, _, _, _, _, _, _, g1, g2⟩ := hm
   refine (congrArg (bindE · _) (sum_loop (fun acc' k => (acc', (i : Int), (k : Int), c0, c1, c2, c3, c4, c5, c6)) (fun acc' => (acc', (i : Int), c0, c1, c2, c3, c4, c5, c6)) (c6.getD i mth0).2.2.2.2.2.2.2 (0, [], []) cntF 16 100000 acc (fun f hf => cntF_ran f (g2 f hf)) rfl ha0 (by omega) ?_ ?_)).trans ?_
   ·intro acc'
    simp only [i0, decide_true, grdO_t, Int.toNat_natCast]
    rw [atO_gd mth0 hi]
    simp only [Int.lt_irrefl, if_false]
   ·intro acc' k hk k0 k1
    have j1 : (k : Int) < (c6.getD i mth0).2.2.2.2.2.2.2.length := by omega
    have j0 : (0 : Int) ≤ k := by omega
    have hff := cntF_ran _ ((all_getD (P := fFrm) (0, [], [])).1 g2 k hk)
    simp only [i0, decide_true, grdO_t, Int.toNat_natCast]
    rw [atO_gd mth0 hi]
    simp only [atO_gd mth0 hi]
    generalize (c6.getD i mth0).2.2.2.2.2.2.2 = fs at hk j1 hff g1
    simp only [j1, j0, if_true, decide_true, grdO_t]
    rw [atO_gd (0, [], []) hk, atO_gd (0, [], []) hk]
    generalize fs.getD k (0, [], []) = x at hff
    unfold cntF at hff ⊢
    rw [wI (x := acc' + _) (by omega) (by omega), wI (x := acc' + _ + _) (by omega) (by omega), wI (x := (k : Int) + 1) (by omega) (by omega)]
    rw [Int.add_assoc]
    rfl
   ·simp only [bindE_l]
    rw [wI (by omega) (by omega)]
    rfl
  ·simp only [Int.zero_add]
   rfl
 ·rw [if_neg h0, if_neg h0]
theorem many26 (c : Cls) (h : bCls c) : F26 c = some (many c) := by
 have z := chk29 c h
 by_cases hpu : put c = []
 ·unfold many
  rw [if_pos hpu] at z
  rw [if_pos hpu]
  obtain ⟨c0, c1, c2, c3, c4, c5, c6⟩ := c
  simp only [F26, z, bindO_s, cndO_n, cndO_d]
  rfl
 rw [if_neg hpu] at z
 unfold many
 rw [if_neg hpu]
 have hf := put_fit hpu
 obtain ⟨⟨f1, f2, f3, f4⟩, _, _, _, _, _, _, hms⟩ := hf
 obtain ⟨c0, c1, c2, c3, c4, c5, c6⟩ := c
 simp only at f4 hms
 simp only [F26, z, bindO_s, cndO_n, cndO_d]
 by_cases h0 : chkV (c0, c1, c2, c3, c4, c5, c6) = 0
 ·rw [if_pos h0, if_pos h0]
  refine (sum_loop (fun acc i => (acc, c6, (c6.length : Int), (i : Int))) (fun acc => acc) c6 mth0 cntM 128 100000 0 (fun m hm => cntM_ran m (hms m hm)) rfl (by omega) (by omega) ?_ ?_).trans ?_
  ·intro acc
   simp only [Int.lt_irrefl, if_false]
  ·intro acc i hi ha0 ha1
   have i1 : (i : Int) < c6.length := by omega
   have i0 : (0 : Int) ≤ i := by omega
   have hm := (all_getD (P := fMth) mth0).1 hms i hi
   simp only [i1, i0, if_true, decide_true, grdO_t, Int.toNat_natCast]
   rw [atO_gd mth0 hi]
   obtain ⟨_, _, _, _, _, _, _, g1, g2⟩ := hm
   unfold cntM
   generalize (c6.getD i mth0).2.2.2.2.2.2.2 = fs at g1 g2
   refine (congrArg (bindE · _) (sum_loop (fun acc' k => (acc', c6, (c6.length : Int), (i : Int), fs, (fs.length : Int), (k : Int))) (fun acc' => (acc', c6, (c6.length : Int), (i : Int))) fs (0, [], []) cntF 16 100000 acc (fun f hf => cntF_ran f (g2 f hf)) rfl ha0 (by omega) ?_ ?_)).trans ?_
   ·intro acc'
    simp only [Int.lt_irrefl, if_false]
   ·intro acc' k hk k0 k1
    have j1 : (k : Int) < fs.length := by omega
    have j0 : (0 : Int) ≤ k := by omega
    have hff := cntF_ran _ ((all_getD (P := fFrm) (0, [], [])).1 g2 k hk)
    simp only [j1, j0, if_true, decide_true, grdO_t, Int.toNat_natCast]
    rw [atO_gd (0, [], []) hk]
    generalize fs.getD k (0, [], []) = x at hff
    unfold cntF at hff ⊢
    rw [wI (x := (x.2.1.length : Int) + _) (by omega) (by omega), wI (x := acc' + _) (by omega) (by omega), wI (x := (k : Int) + 1) (by omega) (by omega)]
    rfl
   ·simp only [bindE_l]
    rw [wI (by omega) (by omega)]
    rfl
  ·simp only [Int.zero_add]
   rfl
 ·rw [if_neg h0, if_neg h0]
theorem core6 (c : Cls) (_ : small tg33 c) (h : bCls c) : ∃ n, F24 c = some n ∧ F26 c = some n := ⟨many c, many24 c h, many26 c h⟩
theorem true6 (x : tg33.Den) (hs : small tg33 x) : F6 x = some true := all6 core6 x hs
end Go.Proofs.YtdpapeledldifaaGreat
end
section
namespace Go.Proofs.YtdpapeledldifaaGreat
theorem exactFrameMany : Rows.FnExactFrameManySaid := fnExactFrameMany_of true6
end Go.Proofs.YtdpapeledldifaaGreat
end
