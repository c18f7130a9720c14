/- Part 9 of the proof that, for every class, FrameMany of the code and of the specification agree; no condition. -/
import Derived.Test.YtdpapeledldifaaGreatX07
set_option autoImplicit true
set_option relaxedAutoImplicit true
set_option linter.all false
section
namespace Go.TM
open Go.AM
section
variable {R : Type}
def subV (o : Nat) (y : V) : V → V
 | .ar n => bif n == o then y else .ar n
 | x => killV o x
def subA (o : Nat) (y : V) : List (Nat × V) → List (Nat × V)
 | [] => []
 | p :: l => (p.1, subV o y p.2) :: subA o y l
def frzArT (s : TS) (o : Nat) (K : TS → Option R) : Option R := match getT s.ob o with
 | some (.arr _ g _ l) => K ⟨s.n, subA o (.sl g l) s.al, killOV o s.ob⟩
 | _ => none
def closeArT (s : TS) (t o : Nat) (K : TS → Option R) : Option R := match getT s.ob o with
 | some (.arr _ g d l) => K (setT (killT o s) t (.own g d l))
 | _ => none
def closeAggT (t j : Nat) (K : TS → Option R) (s : TS) : Option R := match lookT s t with
 | .agg cs => match lkV cs j with
  | .ar o => match getT (stripT s (.tmp t)).ob o with
   | some (.arr _ g d l) => K (setT (killT o (stripT s (.tmp t))) t (.agg (updV (killVL o cs) j (.own g d l))))
   | _ => none
  | _ => K s
 | _ => K s
def closeAggsT (t : Nat) : Nat → Nat → (TS → Option R) → TS → Option R
 | 0, _, K, s => K s
 | n + 1, j, K, s => closeAggT t j (closeAggsT t n (j + 1) K) s
def closeCT (ob off : Nat) (K : TS → Option R) (s : TS) : Option R := match getT s.ob ob with
 | some (.box _ cs) => match lkV cs off with
  | .ar o => match getT s.ob o with
   | some (.arr _ g d l) => chkO (ble (off + 1) cs.length) (match getT (killT o s).ob ob with
    | some (.box _ cs1) => chkO (ble (off + 1) cs1.length) (K ⟨s.n, (killT o s).al, setBoxT (killT o s).ob ob (wrV cs1 off [.own g d l])⟩)
    | _ => none)
   | _ => none
  | _ => K s
 | _ => K s
def ownP : Pat → Bool
 | .own _ _ => true
 | .agg p => ownP p
 | .cons p q => ownP p || ownP q
 | _ => false
def prepV (t : Nat) (p : Pat) (K : TS → Option R) (s : TS) : Option R := match p with
 | .own _ _ => (match lookT s t with
  | .ar o => closeArT s t o K
  | _ => K s)
 | .sl _ => (match lookT s t with
  | .own _ _ _ => K (frzTT s (.tmp t))
  | .emp _ => K (frzTT s (.tmp t))
  | .ar o => frzArT s o K
  | _ => K s)
 | .agg q => (match lookT s t with
  | .agg cs => closeAggsT t cs.length 0 (fun s => match ownP q with
   | true => K s
   | false => K (frzTT s (.tmp t))) s
  | _ => K s)
 | _ => K s
def prepA : List (Nat × Pat) → (TS → Option R) → TS → Option R
 | [], K, s => K s
 | p :: l, K, s => prepV p.1 p.2 (prepA l K) s
def prepC (o : Nat) : Pat → Nat → (TS → Option R) → TS → Option R
 | .cons p q, j, K, s => (match p with
  | .own _ _ => closeCT o j (prepC o q (j + 1) K) s
  | _ => prepC o q (j + 1) K s)
 | _, _, K, s => K s
def prepO : List OPat → (TS → Option R) → TS → Option R
 | [], K, s => K s
 | o :: l, K, s => (match o with
  | .box n p => prepC n p 0 (prepO l K) s
  | .arr _ _ _ => prepO l K s)
def takeS (N : Nat) (p : SPat) (K : p.Den → Option R) (s : TS) : Option R := chkO (okA p.al) (prepO p.ob (prepA p.al fun s => chkO (s.n == N) (decS p s K)) s)
def closeX (x : Operand) (K : TS → Option R) (s : TS) : Option R := match x with
 | .tmp t => (match lookT s t with
  | .ar o => closeArT s t o K
  | .agg cs => closeAggsT t cs.length 0 K s
  | _ => K s)
 | _ => K s
def closeXL : List Operand → (TS → Option R) → TS → Option R
 | [], K, s => K s
 | x :: l, K, s => closeX x (closeXL l K) s
def frzX (x : Operand) (K : TS → Option R) (s : TS) : Option R := match x with
 | .tmp t => (match lookT s t with
  | .ar o => frzArT s o K
  | _ => K (frzTT s x))
 | _ => K s
def isArr (d : Bool) (s : TS) (a : V) : Bool := match a with
 | .p o _ _ => (match getT s.ob o with
  | some (.arr _ _ d' _) => d == d'
  | _ => false)
 | _ => false
def frzAggN (t : Nat) : Nat → Nat → (TS → Option R) → TS → Option R
 | 0, _, K, s => K s
 | n + 1, j, K, s => (match lookT s t with
  | .agg cs => (match lkV cs j with
   | .ar o => frzArT s o (frzAggN t n (j + 1) K)
   | _ => frzAggN t n (j + 1) K s)
  | _ => K s)
def frzAgg (x : Operand) (K : TS → Option R) (s : TS) : Option R := match x with
 | .tmp t => (match lookT s t with
  | .agg cs => frzAggN t cs.length 0 K s
  | _ => K s)
 | _ => K s
def frzAggL : List Operand → (TS → Option R) → TS → Option R
 | [], K, s => K s
 | x :: l, K, s => frzAgg x (frzAggL l K) s
def closeCN (o : Nat) : Nat → Nat → (TS → Option R) → TS → Option R
 | 0, _, K, s => K s
 | n + 1, j, K, s => closeCT o j (closeCN o n (j + 1) K) s
def closeBs : List TO → (TS → Option R) → TS → Option R
 | [], K, s => K s
 | x :: l, K, s => (match x with
  | .box n cs => closeCN n cs.length 0 (closeBs l K) s
  | .arr _ _ _ _ => closeBs l K s)
def prepX (T : Nat → TI) (gz : List Nat) (o : Oper) (K : TS → Option R) (s : TS) : Option R := match o.op with
 | .buildSlice _ _ ps => closeXL (opnds ps) K s
 | .store _ a x => (match isArr false s (evT s a) with
  | true => closeX x (frzX x K) s
  | false => (match isArr true s (evT s a) with
   | true => closeX x K s
   | false => K s))
 | .convert _ d x => (match (T d).kind with
  | .str => frzX x K s
  | _ => K s)
 | .slice _ x _ _ _ => (match gz.contains (slotOf o.dst) with
  | true => frzX x K s
  | false => K s)
 | .call c => (match c.callee with
  | .builtin .append => (match c.args.toList with
   | [_, y] => (match y with
    | .tmp t => (match lookT s t with
     | .ar o => frzArT s o K
     | _ => K s)
    | _ => K s)
   | _ => K s)
  | .value _ => (match gz.contains (1000000 + slotOf o.dst) with
   | true => closeBs s.ob (frzC gz o c K) s
   | false => frzC gz o c K s)
  | _ => K s)
 | _ => K s
where frzC (gz : List Nat) (o : Oper) (c : Call) (K : TS → Option R) (s : TS) : Option R := match gz.contains (slotOf o.dst) with
 | true => frzAggL c.args.toList K s
 | false => K s
variable {r : R} {s : TS} {K : TS → Option R} {K' : St → Prop}
theorem subV_e (o : Nat) (y v : V) : AM.subV o (e y) (e v) = e (subV o y v) := by
 cases v with
 | ar n =>
  simp only [e, AM.subV, subV]
  by_cases h : n = o
  ·simp [h]
  ·have : (n == o) = false := by simpa using h
   simp [h, this, e]
 | _ => first | rfl | (simp only [subV, ← kill_e]; rfl)
theorem subA_e (o : Nat) (y : V) : ∀ al : List (Nat × V), subArA o (e y) (eA al) = eA (subA o y al)
 | [] => rfl
 | p :: l => by simp only [eA, subArA, subA, subV_e, subA_e o y l]
theorem frzArT_sound {o : Nat} (h : frzArT s o K = some r) (hK : ∀ s, K s = some r → gK K' (eS s)) : gK K' (eS s) := by
 unfold frzArT at h
 split at h
 ·rename_i n g d l hg
  refine gK_trans (gK_frzAr o ?_)
  unfold frzAr
  rw [getOb_arr hg]
  refine ⟨rfl, ?_⟩
  simp only [frzRR_enc]
  have := hK _ h
  simp only [eS] at this ⊢
  rw [subAr_den, show SV.sl g.sz (l.map (encC false g)) = e (.sl g l) from rfl, subA_e, killOb_e]
  exact this
 ·cases h
theorem closeArT_sound {t o : Nat} (hv : lookT s t = .ar o) (h : closeArT s t o K = some r) (hK : ∀ s, K s = some r → gK K' (eS s)) : gK K' (eS s) := by
 unfold closeArT at h
 split at h
 ·rename_i n g d l hg
  refine gK_trans (gK_closeAr t ?_)
  unfold closeAr
  rw [e_lookT, hv]
  simp only [e]
  rw [getOb_arr hg]
  refine ⟨rfl, ?_⟩
  rw [killSt_e, show SV.own g.sz (l.map (encC d g)) = e (.own g d l) from rfl, setE_e]
  exact hK _ h
 ·cases h
theorem frz_sound {t : Nat} (h : gK K' (eS (frzTT s (.tmp t)))) : gK K' (eS s) := by
 refine gK_trans (gK_frz t ?_)
 rw [frzT_e]
 exact h
theorem closeAggT_sound {t j : Nat} (h : closeAggT t j K s = some r) (hK : ∀ s, K s = some r → gK K' (eS s)) : gK K' (eS s) := by
 unfold closeAggT at h
 split at h
 ·rename_i cs hv
  split at h
  ·rename_i o ho
   split at h
   ·rename_i n g d l hg
    refine gK_trans (gK_closeAgg (t := t) (j := j) ?_)
    unfold closeAgg
    rw [e_lookT, hv]
    simp only [e]
    rw [← e_lkV, ho]
    simp only [e]
    rw [strip_e, getOb_arr hg]
    simp only
    rw [killL_e, killSt_e, show SV.own g.sz (l.map (encC d g)) = e (.own g d l) from rfl, ← eL_updV, show SV.agg (eL (updV (killVL o cs) j (.own g d l))) = e (.agg (updV (killVL o cs) j (.own g d l))) from rfl, setE_e]
    exact hK _ h
   ·cases h
  ·exact hK _ h
 ·exact hK _ h
theorem closeAggsT_sound {t : Nat} : ∀ (n j : Nat) {s : TS}, closeAggsT t n j K s = some r → (∀ s, K s = some r → gK K' (eS s)) → gK K' (eS s)
 | 0, j, s, h, hK => hK _ h
 | n + 1, j, s, h, hK => closeAggT_sound h fun s h => closeAggsT_sound n (j + 1) h hK
theorem closeCT_sound {ob off : Nat} (h : closeCT ob off K s = some r) (hK : ∀ s, K s = some r → gK K' (eS s)) : gK K' (eS s) := by
 unfold closeCT at h
 split at h
 ·rename_i n cs hg
  split at h
  ·rename_i o ho
   split at h
   ·rename_i m g d l hg2
    obtain ⟨h1, h2⟩ := chkO_some h
    split at h2
    ·rename_i n1 cs1 hg3
     obtain ⟨h3, h4⟩ := chkO_some h2
     refine gK_trans (gK_closeC (ob := ob) (off := off) ?_)
     unfold closeC
     rw [getOb_box hg]
     simp only [List.getElem?_cons_zero]
     rw [← e_lkV, ho]
     simp only [e]
     rw [getOb_arr hg2]
     refine chk_mk (by simp only [eL_length, h1]; rfl) ?_
     rw [killSt_e, getOb_box hg3]
     simp only [List.getElem?_cons_zero]
     refine chk_mk (by simp only [eL_length, h3]; rfl) ?_
     have hw : wr (eL cs1) off [SV.own g.sz (l.map (encC d g))] = eL (wrV cs1 off [.own g d l]) := by rw [eL_wrV]; rfl
     rw [hw, setCells_box hg3 (wrV_length _ _ _ (by simpa using ble_le h3))]
     exact hK _ h4
    ·cases h2
   ·cases h
  ·exact hK _ h
 ·exact hK _ h
theorem prepV_sound {t : Nat} {p : Pat} (h : prepV t p K s = some r) (hK : ∀ s, K s = some r → gK K' (eS s)) : gK K' (eS s) := by
 unfold prepV at h
 split at h
 ·split at h
  ·rename_i hv; exact closeArT_sound hv h hK
  ·exact hK _ h
 ·split at h
  ·exact frz_sound (hK _ h)
  ·exact frz_sound (hK _ h)
  ·exact frzArT_sound h hK
  ·exact hK _ h
 ·split at h
  ·refine closeAggsT_sound _ _ h fun s h => ?_
   split at h
   ·exact hK _ h
   ·exact frz_sound (hK _ h)
  ·exact hK _ h
 ·exact hK _ h
theorem prepA_sound : ∀ (l : List (Nat × Pat)) {s : TS}, prepA l K s = some r → (∀ s, K s = some r → gK K' (eS s)) → gK K' (eS s)
 | [], s, h, hK => hK _ h
 | p :: l, s, h, hK => prepV_sound h fun s h => prepA_sound l h hK
theorem prepC_sound {o : Nat} : ∀ (p : Pat) (j : Nat) {s : TS} {K : TS → Option R}, prepC o p j K s = some r → (∀ s, K s = some r → gK K' (eS s)) → gK K' (eS s)
 | .cons p q, j, s, K, h, hK => by
  unfold prepC at h
  split at h
  ·exact closeCT_sound h fun s h => prepC_sound q (j + 1) h hK
  ·exact prepC_sound q (j + 1) h hK
 | .i _, _, _, _, h, hK | .b, _, _, _, h, hK | .s, _, _, _, h, hK | .sl _, _, _, _, h, hK | .own _ _, _, _, _, h, hK | .ptr _ _, _, _, _, h, hK | .ptrI _ _, _, _, _, h, hK
 | .ar _, _, _, _, h, hK | .nilp, _, _, _, h, hK | .u, _, _, _, h, hK | .nil, _, _, _, h, hK | .sc _, _, _, _, h, hK | .agg _, _, _, _, h, hK | .tup _, _, _, _, h, hK | .fn _ _, _, _, _, h, hK | .ro _, _, _, _, h, hK | .nop, _, _, _, h, hK => hK _ h
theorem prepO_sound : ∀ (l : List OPat) {s : TS}, prepO l K s = some r → (∀ s, K s = some r → gK K' (eS s)) → gK K' (eS s)
 | [], s, h, hK => hK _ h
 | o :: l, s, h, hK => by
  unfold prepO at h
  split at h
  ·exact prepC_sound _ _ h fun s h => prepO_sound l h hK
  ·exact prepO_sound l h hK
theorem closeX_sound {x : Operand} (h : closeX x K s = some r) (hK : ∀ s, K s = some r → gK K' (eS s)) : gK K' (eS s) := by
 unfold closeX at h
 split at h
 ·split at h
  ·rename_i hv; exact closeArT_sound hv h hK
  ·exact closeAggsT_sound _ _ h hK
  ·exact hK _ h
 ·exact hK _ h
theorem closeXL_sound : ∀ (l : List Operand) {s : TS}, closeXL l K s = some r → (∀ s, K s = some r → gK K' (eS s)) → gK K' (eS s)
 | [], s, h, hK => hK _ h
 | x :: l, s, h, hK => closeX_sound h fun s h => closeXL_sound l h hK
theorem frzX_sound {x : Operand} (h : frzX x K s = some r) (hK : ∀ s, K s = some r → gK K' (eS s)) : gK K' (eS s) := by
 unfold frzX at h
 split at h
 ·split at h
  ·exact frzArT_sound h hK
  ·exact frz_sound (hK _ h)
 ·exact hK _ h
theorem frzAggN_sound {t : Nat} : ∀ (n j : Nat) {s : TS}, frzAggN t n j K s = some r → (∀ s, K s = some r → gK K' (eS s)) → gK K' (eS s)
 | 0, j, s, h, hK => hK _ h
 | n + 1, j, s, h, hK => by
  unfold frzAggN at h
  split at h
  ·split at h
   ·exact frzArT_sound h fun s h => frzAggN_sound n (j + 1) h hK
   ·exact frzAggN_sound n (j + 1) h hK
  ·exact hK _ h
theorem frzAgg_sound {x : Operand} (h : frzAgg x K s = some r) (hK : ∀ s, K s = some r → gK K' (eS s)) : gK K' (eS s) := by
 unfold frzAgg at h
 split at h
 ·split at h
  ·exact frzAggN_sound _ _ h hK
  ·exact hK _ h
 ·exact hK _ h
theorem frzAggL_sound : ∀ (l : List Operand) {s : TS}, frzAggL l K s = some r → (∀ s, K s = some r → gK K' (eS s)) → gK K' (eS s)
 | [], s, h, hK => hK _ h
 | x :: l, s, h, hK => frzAgg_sound h fun s h => frzAggL_sound l h hK
theorem closeCN_sound {o : Nat} : ∀ (n j : Nat) {s : TS}, closeCN o n j K s = some r → (∀ s, K s = some r → gK K' (eS s)) → gK K' (eS s)
 | 0, j, s, h, hK => hK _ h
 | n + 1, j, s, h, hK => closeCT_sound h fun s h => closeCN_sound n (j + 1) h hK
theorem closeBs_sound : ∀ (l : List TO) {s : TS}, closeBs l K s = some r → (∀ s, K s = some r → gK K' (eS s)) → gK K' (eS s)
 | [], s, h, hK => hK _ h
 | x :: l, s, h, hK => by
  unfold closeBs at h
  split at h
  ·exact closeCN_sound _ _ h fun s h => closeBs_sound l h hK
  ·exact closeBs_sound l h hK
theorem prepX_sound {T : Nat → TI} {gz : List Nat} {o : Oper} (h : prepX T gz o K s = some r) (hK : ∀ s, K s = some r → gK K' (eS s)) : gK K' (eS s) := by
 unfold prepX at h
 split at h
 ·exact closeXL_sound _ h hK
 ·split at h
  ·exact closeX_sound h fun s h => frzX_sound h hK
  ·split at h
   ·exact closeX_sound h hK
   ·exact hK _ h
 ·split at h
  ·exact frzX_sound h hK
  ·exact hK _ h
 ·split at h
  ·exact frzX_sound h hK
  ·exact hK _ h
 ·split at h
  ·split at h
   ·split at h
    ·split at h
     ·exact frzArT_sound h hK
     ·exact hK _ h
    ·exact hK _ h
   ·exact hK _ h
  ·have hf : ∀ {s}, prepX.frzC gz o (by assumption) K s = some r → gK K' (eS s) := by
    intro s h
    unfold prepX.frzC at h
    split at h
    ·exact frzAggL_sound _ h hK
    ·exact hK _ h
   split at h
   ·exact closeBs_sound _ h fun s h => hf h
   ·exact hf h
  ·exact hK _ h
 ·exact hK _ h
theorem takeS_sound {N : Nat} {p : SPat} {K : p.Den → Option R} (h : takeS N p K s = some r) (hK : ∀ x, K x = some r → K' (eS (encS N p x))) : gK K' (eS s) := by
 obtain ⟨h0, h1⟩ := chkO_some h
 refine prepO_sound _ h1 fun s1 h2 => prepA_sound _ h2 fun s2 h3 => ?_
 obtain ⟨hn, h3⟩ := chkO_some h3
 obtain ⟨x, h4, h5⟩ := decS_sound h0 h3
 have hn := eq_of_beq hn
 rw [hn] at h5
 exact h5 _ (hK x h4)
end
end Go.TM
end
section
namespace Go.TM
open Go.AM
section
variable {X Y R : Type}
def whileN (f : X → Option (X ⊕ Y)) : Nat → X → Option Y
 | 0, _ => none
 | n + 1, x => match f x with
  | some (.inl x') => whileN f n x'
  | some (.inr y) => some y
  | none => none
noncomputable def whileO (f : X → Option (X ⊕ Y)) (x : X) : Option Y := @dite _ (∃ y n, whileN f n x = some y) (Classical.propDecidable _) (fun h => some (Classical.choose h)) (fun _ => none)
theorem whileN_mono {f : X → Option (X ⊕ Y)} : ∀ {n m : Nat} {x : X} {y : Y}, n ≤ m → whileN f n x = some y → whileN f m x = some y
 | 0, _, _, _, _, h => by cases h
 | n + 1, 0, _, _, hm, _ => by omega
 | n + 1, m + 1, x, y, hm, h => by
  simp only [whileN] at h ⊢
  split at h
  ·exact whileN_mono (by omega) h
  ·exact h
  ·cases h
theorem whileN_det {f : X → Option (X ⊕ Y)} {n m : Nat} {x : X} {y z : Y} (h1 : whileN f n x = some y) (h2 : whileN f m x = some z) : y = z := by
 have a := whileN_mono (Nat.le_max_left n m) h1
 have b := whileN_mono (Nat.le_max_right n m) h2
 rw [a] at b
 exact Option.some.inj b
theorem whileO_some {f : X → Option (X ⊕ Y)} {x : X} {y : Y} (h : whileO f x = some y) : ∃ n, whileN f n x = some y := by
 unfold whileO at h
 split at h
 ·rename_i hex
  simp only [Option.some.injEq] at h
  subst h
  exact Classical.choose_spec hex
 ·cases h
theorem whileO_of {f : X → Option (X ⊕ Y)} {x : X} {y : Y} {n : Nat} (h : whileN f n x = some y) : whileO f x = some y := by
 unfold whileO
 have hex : ∃ y n, whileN f n x = some y := ⟨y, n, h⟩
 rw [dif_pos hex]
 congr 1
 obtain ⟨m, hm⟩ := Classical.choose_spec hex
 exact whileN_det hm h
theorem whileO_eq (f : X → Option (X ⊕ Y)) (x : X) : whileO f x = match f x with
  | some (.inl x') => whileO f x'
  | some (.inr y) => some y
  | none => none := by
 cases hf : f x with
 | none =>
  simp only
  cases h : whileO f x with
  | none => rfl
  | some y =>
   obtain ⟨n, hn⟩ := whileO_some h
   cases n with
   | zero => cases hn
   | succ n => simp only [whileN, hf] at hn; cases hn
 | some z =>
  cases z with
  | inl x' =>
   simp only
   cases h : whileO f x' with
   | some y =>
    obtain ⟨n, hn⟩ := whileO_some h
    exact whileO_of (n := n + 1) (by simp only [whileN, hf]; exact hn)
   | none =>
    cases h2 : whileO f x with
    | none => rfl
    | some y =>
     obtain ⟨n, hn⟩ := whileO_some h2
     cases n with
     | zero => cases hn
     | succ n =>
      simp only [whileN, hf] at hn
      rw [whileO_of hn] at h; cases h
  | inr y => exact whileO_of (n := 1) (by simp only [whileN, hf])
def bindE (x : Option (Y ⊕ R)) (k : Y → Option R) : Option R := match x with
 | some (.inl y) => k y
 | some (.inr r) => some r
 | none => none
def mapR (x : Option R) : Option (Y ⊕ R) := match x with
 | some r => some (.inr r)
 | none => none
theorem mapR_some {x : Option R} {z : Y ⊕ R} (h : mapR x = some z) : ∃ r, z = .inr r ∧ x = some r := by
 cases x with
 | none => cases h
 | some r => simp only [mapR, Option.some.injEq] at h; exact ⟨r, h.symm, rfl⟩
theorem bindE_some {x : Option (Y ⊕ R)} {k : Y → Option R} {r : R} (h : bindE x k = some r) : (∃ y, x = some (.inl y) ∧ k y = some r) ∨ x = some (.inr r) := by
 unfold bindE at h
 split at h
 ·exact .inl ⟨_, rfl, h⟩
 ·simp only [Option.some.injEq] at h; subst h; exact .inr rfl
 ·cases h
def seqU (x : Option Unit) (k : Option R) : Option R := match x with | some _ => k | none => none
theorem seqU_some {x : Option Unit} {k : Option R} {r : R} (h : seqU x k = some r) : x = some () ∧ k = some r := by
 cases x with
 | none => cases h
 | some u => exact ⟨rfl, h⟩
end
def GT.decEq : (t : GT) → DecidableEq t.Den
 | .int _ => (inferInstance : DecidableEq Int)
 | .byte => (inferInstance : DecidableEq UInt8)
 | .bool => (inferInstance : DecidableEq Bool)
 | .str => (inferInstance : DecidableEq (List UInt8))
 | .sl t => @instDecidableEqList t.Den t.decEq
 | .unit => (inferInstance : DecidableEq Unit)
 | .pair a b => @instDecidableEqProd a.Den b.Den a.decEq b.decEq
mutual
def eqVb : V → V → Bool
 | .i k n, .i k' n' => eqK k k' && decide (n = n')
 | .b x, .b y => decide (x = y)
 | .s x, .s y => decide (x = y)
 | .sl t l, .sl t' l' => (match hs : t.same t' with
  | true => @decide (l = castL hs l') ((GT.sl t).decEq l (castL hs l'))
  | false => false)
 | .ar a, .ar b => a == b
 | .p a b c, .p a' b' c' => a == a' && b == b' && c == c'
 | .ro c, .ro c' => eqVbL c c'
 | .agg xs, .agg ys => eqVbL xs ys
 | .nilp, .nilp => true
 | .nil, .nil => true
 | .sk, .sk => true
 | .u, .u => true
 | .fn f c, .fn f' c' => f == f' && eqVbL c c'
 | _, _ => false
def eqVbL : List V → List V → Bool
 | [], [] => true
 | x :: xs, y :: ys => eqVb x y && eqVbL xs ys
 | _, _ => false
end
mutual
theorem eqVb_e : ∀ (x y : V), eqVb x y = true → e x = e y := by
 intro x y h
 cases x <;> cases y <;> simp only [eqVb] at h <;> try (cases h; done)
 case i.i => simp only [eqK, Bool.and_eq_true, decide_eq_true_eq] at h; rw [h.1, h.2]
 case b.b => rw [of_decide_eq_true h]
 case s.s => rw [of_decide_eq_true h]
 case sl.sl t l t' l' =>
  split at h
  ·rename_i hs
   have := @of_decide_eq_true _ ((GT.sl t).decEq l (castL hs l')) h
   simp only [e]
   rw [this, castL_map, same_sz hs]
  ·cases h
 case ar.ar => rw [eq_of_beq h]
 case p.p => simp only [Bool.and_eq_true, beq_iff_eq] at h; obtain ⟨⟨rfl, rfl⟩, rfl⟩ := h; rfl
 case ro.ro c c' => simp only [e, eqVbL_e c c' h]
 case agg.agg c c' => simp only [e, eqVbL_e c c' h]
 case fn.fn f c f' c' =>
  simp only [Bool.and_eq_true, beq_iff_eq] at h
  simp only [e, h.1, eqVbL_e c c' h.2]
 all_goals rfl
theorem eqVbL_e : ∀ (x y : List V), eqVbL x y = true → eL x = eL y
 | [], [], _ => rfl
 | [], _ :: _, h => by simp [eqVbL] at h
 | _ :: _, [], h => by simp [eqVbL] at h
 | x :: xs, y :: ys, h => by
  simp only [eqVbL, Bool.and_eq_true] at h
  simp only [eL, eqVb_e x y h.1, eqVbL_e xs ys h.2]
end
end Go.TM
end
