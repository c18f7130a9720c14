/- Part 8 of the proof that, for every class, FrameMany of the code and of the specification agree; no condition. -/
import Derived.Test.YtdpapeledldifaaGreatX06
set_option autoImplicit true
set_option relaxedAutoImplicit true
set_option linter.all false
section
namespace Go.TM
open Go.AM
section
variable {R : Type} {T : Nat → TI} {C : TCall R} {C' : CallP} {o : Oper} {s : TS} {K : TS → Option R} {K' : St → Prop} {r : R}
theorem Kq {K' : St → Prop} (hK : ∀ s, K s = some r → K' (eS s)) {s' : TS} {st : St} (he : st = eS s') (h : K s' = some r) : K' st := by rw [he]; exact hK _ h
theorem chk_mk {b : Bool} {A : Prop} (hb : b = true) (h : A) : chk b A := by rw [hb]; exact h
theorem e_ne_own {v : V} (h : hasOwnV v = false) : ∀ k rows, e v ≠ .own k rows := by
 intro k rows he
 cases v <;> simp [e, hasOwnV] at he h
theorem own_cases (v : V) : (∃ g d l, v = .own g d l) ∨ (∃ g, v = .emp g) ∨ (∀ k rows, e v ≠ .own k rows) := by
 cases v with
 | own g d l => exact .inl ⟨_, _, _, rfl⟩
 | emp g => exact .inr (.inl ⟨_, rfl⟩)
 | _ => refine .inr (.inr ?_); intro k rows h; simp [e] at h
theorem tmove {x : Operand} (ho : o.op = .move x) (hK : ∀ s, K s = some r → K' (eS s)) (h : tstep T C o s K = some r) : stepK T C' o (eS s) (K') := by
 simp only [tstep, ho] at h
 simp only [stepK, ho]
 cases x with
 | tmp t =>
  simp only at h ⊢
  rw [e_lookT]
  rcases own_cases (lookT s t) with ⟨g, d, l, hv⟩ | ⟨g, hv⟩ | hv
  ·rw [hv] at h ⊢
   obtain ⟨h1, h2⟩ := chkO_some h
   refine chk_mk h1 (Kq hK ?_ h2)
   rw [show (SV.u) = e .u from rfl, setE_e]
   have := addOb_e (s := setT s t .u) t (.arr t g d l) rfl
   simp only [eO] at this
   rw [this, show (SV.ar t) = e (.ar t) from rfl, setE_e, setD_e]
  ·rw [hv] at h ⊢
   obtain ⟨h1, h2⟩ := chkO_some h
   refine chk_mk h1 (Kq hK ?_ h2)
   rw [show (SV.u) = e .u from rfl, setE_e]
   have := addOb_e (s := setT s t .u) t (.arr t g true []) rfl
   simp only [eO, List.map_nil] at this
   rw [this, show (SV.ar t) = e (.ar t) from rfl, setE_e, setD_e]
  ·have h' : (match hasOwnV (lookT s t) with
    | true => K (setDT (setT s t .u) o.dst (lookT s t))
    | false => K (setDT s o.dst (lookT s t))) = some r := by
    revert h
    split
    ·rename_i g d l hq; rw [hq] at hv; exact absurd rfl (hv _ _)
    ·rename_i g hq; rw [hq] at hv; exact absurd rfl (hv _ _)
    ·exact id
   split
   ·rename_i hq; exact absurd hq (hv _ _)
   ·rw [hasOwn_e]
    revert h'
    cases hasOwnV (lookT s t)
    ·intro h'; exact Kq hK (setD_e _ _) h'
    ·intro h'; exact Kq hK (by rw [show (SV.u) = e .u from rfl, setE_e, setD_e]) h'
 | _ => simp only at h ⊢; rw [e_evT, setD_e]; exact hK _ h
theorem tassign {x : Operand} (ho : o.op = .assign x) (hK : ∀ s, K s = some r → K' (eS s)) (h : tstep T C o s K = some r) : stepK T C' o (eS s) (K') := by
 simp only [tstep, ho] at h
 simp only [stepK, stepK0, ho]
 rw [e_evT, strip_e, setD_e]
 exact hK _ h
theorem tpick {c x y : Operand} (ho : o.op = .pick c x y) (hK : ∀ s, K s = some r → K' (eS s)) (h : tstep T C o s K = some r) : stepK T C' o (eS s) (K') := by
 simp only [tstep, ho] at h
 simp only [stepK, stepK0, ho]
 rw [e_evT, e_evT, e_evT]
 generalize evT s c = vc at h ⊢
 cases vc <;> simp only [e] at h ⊢ <;> try cases h
 rename_i b
 have key : cndO b (K (setDT (stripT s x) o.dst (evT s x))) (K (setDT (stripT s y) o.dst (evT s y))) = some r → cnd b (K' (setD (strip (eS s) x) o.dst (e (evT s x)))) (K' (setD (strip (eS s) y) o.dst (e (evT s y)))) := by
  intro h
  refine cnd.mk (fun hb => ?_) (fun hb => ?_)
  ·subst hb; exact Kq hK (by rw [strip_e, setD_e]) h
  ·subst hb; exact Kq hK (by rw [strip_e, setD_e]) h
 revert h key
 generalize hx : evT s x = vx
 generalize hy : evT s y = vy
 intro h key
 have hb : ∀ z : Bool, setD (eS s) o.dst (SV.b z) = eS (setDT s o.dst (.b z)) := fun z => setD_e o.dst (V.b z)
 cases vx <;> cases vy <;> simp only [e] at h key ⊢ <;> first | exact Kq hK (hb _) h | exact key h
theorem talloc {t : TypeId} (ho : o.op = .alloc t) (hK : ∀ s, K s = some r → K' (eS s)) (h : tstep T C o s K = some r) : stepK T C' o (eS s) (K') := by
 simp only [tstep, ho] at h
 simp only [stepK, ho]
 cases hd : o.dst with
 | none => rw [hd] at h; cases h
 | some d =>
  rw [hd] at h
  simp only at h ⊢
  obtain ⟨h1, h2⟩ := chkO_some h
  simp only [Bool.and_eq_true] at h1
  refine chk_mk (by simp only [h1.1.1.1, h1.1.1.2, Bool.and_self]) (Kq hK ?_ h2)
  have hz := ofZL_e _ h1.1.2
  have := addOb_e (s := s) d (.box d (ofZL (T t).zero)) rfl
  simp only [eO, hz] at this
  have hl : (ofZL (T t).zero).length = (T t).size := by rw [← eL_length, hz]; exact eq_of_beq h1.2
  rw [hl] at this
  rw [this, show (SV.p d 0 0) = e (.p d 0 0) from rfl, setE_e]
theorem tbox {t : TypeId} {x : Operand} (ho : o.op = .box t x) (hK : ∀ s, K s = some r → K' (eS s)) (h : tstep T C o s K = some r) : stepK T C' o (eS s) (K') := by
 simp only [tstep, ho] at h
 simp only [stepK, ho]
 cases hd : o.dst with
 | none => rw [hd] at h; cases h
 | some d =>
  rw [hd] at h
  simp only at h ⊢
  obtain ⟨h1, h2⟩ := chkO_some h
  rw [e_evT, cellsOf_e, cells1_e, eL_length]
  refine chk_mk h1 (Kq hK ?_ h2)
  simp only [Bool.and_eq_true] at h1
  have := addOb_e (s := stripT s x) d (.box d (killVL d (cellsOfV (evT s x)))) rfl
  simp only [eO, killVL_length, eq_of_beq h1.1.2] at this
  rw [killL_e, strip_e, this, show (SV.p d 0 0) = e (.p d 0 0) from rfl, setE_e]
theorem zipL_e : ∀ (ps : List (Nat × Operand)) (vs : List V), zipL ps (eL vs) = (zipV ps vs).map fun p => (p.1, e p.2)
 | [], vs => by cases vs <;> rfl
 | _ :: _, [] => rfl
 | (j, _) :: ps, v :: vs => by simp only [eL, zipL, zipV, List.map_cons, zipL_e ps vs]
theorem buildOk_e {fs : List (Nat × Nat)} {n : Nat} : ∀ l : List (Nat × V), buildOk T fs n (l.map fun p => (p.1, e p.2)) = buildOkV T fs n l
 | [] => rfl
 | (j, v) :: l => by
  simp only [List.map_cons, buildOk, buildOkV, buildOk_e l, cellsOf_e, eL_length, cells1_e]
  congr 1
  cases fs[j]? with
  | none => rfl
  | some q =>
   have : ∀ a b : Nat, decide (a ≤ b) = ble a b := fun a b => by
    cases hb : ble a b with
    | true => exact decide_eq_true (ble_le hb)
    | false => exact decide_eq_false fun hl => by rw [show ble a b = true from Nat.ble_eq_true_of_le hl] at hb; cases hb
   simp only [this]
theorem putParts_e {fs : List (Nat × Nat)} : ∀ (l : List (Nat × V)) (row : List V), putParts fs (eL row) (l.map fun p => (p.1, e p.2)) = eL (putPartsV fs row l)
 | [], _ => rfl
 | (j, v) :: l, row => by
  simp only [List.map_cons, putParts, putPartsV, cellsOf_e, ← eL_wrV, putParts_e l]
theorem tbuild {t : TypeId} {ps : Array (Nat × Operand)} (ho : o.op = .build t ps) (hK : ∀ s, K s = some r → K' (eS s)) (h : tstep T C o s K = some r) : stepK T C' o (eS s) (K') := by
 simp only [tstep, ho] at h
 simp only [stepK, ho]
 split at h
 ·rename_i fs hk
  simp only [hk]
  obtain ⟨h1, h2⟩ := chkO_some h
  have hz := ofZL_e _ (by simp only [Bool.and_eq_true] at h1; exact h1.1.2)
  have hp : partsOf (eS s) ps = (zipV ps.toList (valsT s (opnds ps))).map fun p => (p.1, e p.2) := by
   simp only [partsOf, valsL_e, zipL_e]
  rw [hp, buildOk_e]
  refine chk_mk (by simp only [Bool.and_eq_true] at h1 ⊢; exact ⟨⟨h1.1.1.1, h1.1.1.2⟩, h1.2⟩) (Kq hK ?_ h2)
  have hpp := putParts_e (fs := fs) (zipV ps.toList (valsT s (opnds ps))) (ofZL (T t).zero)
  rw [hz] at hpp
  rw [hpp, stripL_e]
  exact setD_e _ (.agg _)
 ·cases h
theorem rowsOk_e {n : Nat} : ∀ l : List V, rowsOk n (eL l) = rowsOkV n l
 | [] => rfl
 | v :: l => by simp only [eL, rowsOk, rowsOkV, cellsOf_e, eL_length, cells1_e, plainL_e, rowsOk_e l]
theorem rdRows_spec {d : Bool} {g : GT} {ks : List TK} (hs : shOk T g ks = some []) : ∀ (vs : List V) (K : List g.Den → Option R), rdRows d g vs K = some r → ∃ l, K l = some r ∧ normRows T ks ((eL vs).map cellsOf) = l.map (encC d g)
 | [], K, h => ⟨[], h, rfl⟩
 | v :: vs, K, h => by
  unfold rdRows at h
  obtain ⟨x, rest, h1, h2, _⟩ := rdC_norm g ks [] _ _ hs h
  split at h1
  ·obtain ⟨l, h3, h4⟩ := rdRows_spec hs vs _ h1
   refine ⟨x :: l, h3, ?_⟩
   simp only [eL, List.map_cons, normRows, h4, cellsOf_e, h2, normRow, List.append_nil]
  ·cases h1
theorem tbuildSlice {t : TypeId} {len : Nat} {ps : Array (Nat × Operand)} (ho : o.op = .buildSlice t len ps) (hK : ∀ s, K s = some r → K' (eS s)) (h : tstep T C o s K = some r) : stepK T C' o (eS s) (K') := by
 simp only [tstep, ho] at h
 simp only [stepK, ho]
 split at h
 ·rename_i t' hk
  simp only [hk]
  split at h
  ·rename_i g hg
   obtain ⟨h1, h2⟩ := chkO_some h
   simp only [Bool.and_eq_true] at h1
   obtain ⟨hsh, hsz⟩ := tyOk_spec h1.2
   rw [valsL_e, rowsOk_e, stripL_e]
   refine chk_mk (by simp only [Bool.and_eq_true]; exact h1.1) ?_
   rw [hsz]
   split at h2
   ·rename_i hv
    rw [hv]
    exact Kq hK (setD_e _ (.emp g)) h2
   ·rename_i v vs hv
    obtain ⟨l, h3, h4⟩ := rdRows_spec hsh _ _ h2
    rw [hv, h4]
    exact Kq hK (setD_e _ (.own g _ l)) h3
  ·cases h
 ·cases h
end
end Go.TM
end
section
namespace Go.TM
open Go.AM
section
variable {R : Type} {T : Nat → TI} {C : TCall R} {C' : CallP} {o : Oper} {s : TS} {K : TS → Option R} {K' : St → Prop} {r : R}
theorem setCells_box {ob : Nat} {n : Nat} {cs cs' : List V} (hg : getT s.ob ob = some (.box n cs)) (hl : cs'.length = cs.length) : setCellsAt (eS s) ob [eL cs] 0 (eL cs') = eS ⟨s.n, s.al, setBoxT s.ob ob cs'⟩ := by
 simp only [setCellsAt, eS, setBox_e s.ob hg hl]
theorem getOb_box {ob : Nat} {n : Nat} {cs : List V} (hg : getT s.ob ob = some (.box n cs)) : getOb (eS s).ob ob = some ⟨n, cs.length, [eL cs], true⟩ := by
 simp only [eS, getOb_e, hg, Option.map_some, eO]
theorem getOb_arr {ob : Nat} {n : Nat} {g : GT} {d : Bool} {l : List g.Den} (hg : getT s.ob ob = some (.arr n g d l)) : getOb (eS s).ob ob = some ⟨n, g.sz, l.map (encC d g), false⟩ := by
 simp only [eS, getOb_e, hg, Option.map_some, eO]
theorem openT_own {ob off d n : Nat} {cs : List V} {g : GT} {dd : Bool} {l : List g.Den} {v : V} {K' : St → Prop} (hg : getT s.ob ob = some (.box n cs)) (hv : lkV cs off = v) (hev : e v = .own g.sz (l.map (encC dd g)))
  (h : chkO (Nat.blt d 100000 && d != ob && ble (off + 1) cs.length)
    (match getT (addT ⟨s.n, s.al, setBoxT s.ob ob (wrV cs off [.u])⟩ d (.arr d g dd l)).ob ob with
    | some (.box _ cs1) => chkO (ble (off + 1) cs1.length) (K ⟨s.n, (addT ⟨s.n, s.al, setBoxT s.ob ob (wrV cs off [.u])⟩ d (.arr d g dd l)).al,
      setBoxT (addT ⟨s.n, s.al, setBoxT s.ob ob (wrV cs off [.u])⟩ d (.arr d g dd l)).ob ob (wrV cs1 off [.ar d])⟩)
    | _ => none) = some r) (hK : ∀ s, K s = some r → K' (eS s)) : openC ob 0 off d K' (eS s) := by
 obtain ⟨h1, h2⟩ := chkO_some h
 simp only [Bool.and_eq_true] at h1
 have hoff : off + 1 ≤ cs.length := ble_le h1.2
 unfold openC
 rw [getOb_box hg]
 simp only [List.getElem?_cons_zero]
 rw [← e_lkV, hv, hev]
 simp only
 refine chk_mk (by simp only [h1.1.1, h1.1.2, h1.2, eL_length, Bool.and_self]) ?_
 have hw : wr (eL cs) off [SV.u] = eL (wrV cs off [.u]) := by rw [eL_wrV]; rfl
 have hlen : (wrV cs off [V.u]).length = cs.length := wrV_length _ _ _ (by simpa using hoff)
 rw [hw, setCells_box hg hlen]
 have ha := addOb_e (s := ⟨s.n, s.al, setBoxT s.ob ob (wrV cs off [.u])⟩) d (.arr d g dd l) rfl
 simp only [eO] at ha
 rw [ha]
 generalize hs1 : addT ⟨s.n, s.al, setBoxT s.ob ob (wrV cs off [.u])⟩ d (.arr d g dd l) = s1 at h2
 split at h2
 ·rename_i n1 cs1 hg1
  obtain ⟨h3, h4⟩ := chkO_some h2
  rw [getOb_box hg1]
  simp only [List.getElem?_cons_zero]
  refine chk_mk (by simp only [eL_length, h3, Bool.and_self]) ?_
  have hw1 : wr (eL cs1) off [SV.ar d] = eL (wrV cs1 off [.ar d]) := by rw [eL_wrV]; rfl
  have hlen1 : (wrV cs1 off [V.ar d]).length = cs1.length := wrV_length _ _ _ (by simpa using ble_le h3)
  rw [hw1, setCells_box hg1 hlen1]
  have hn : s1.n = s.n := by rw [← hs1]; rfl
  rw [hn]
  exact hK _ h4
 ·cases h2
theorem openT_sound {ob off d : Nat} {K' : St → Prop} (h : openT ob off d K s = some r) (hK : ∀ s, K s = some r → K' (eS s)) : openC ob 0 off d K' (eS s) := by
 unfold openT at h
 split at h
 ·rename_i n cs hg
  split at h
  ·rename_i g dd l hv
   exact openT_own hg hv rfl h hK
  ·rename_i g hv
   exact openT_own (l := []) (dd := true) hg hv rfl h hK
  ·rename_i hn1 hn2
   unfold openC
   rw [getOb_box hg]
   simp only [List.getElem?_cons_zero]
   rw [← e_lkV]
   rcases own_cases (lkV cs off) with ⟨g, dd, l, hv⟩ | ⟨g, hv⟩ | hv
   ·exact absurd hv (hn1 _ _ _)
   ·exact absurd hv (hn2 _)
   ·split
    ·rename_i hq; exact absurd hq (hv _ _)
    ·exact hK _ h
 ·cases h
theorem opensT_sound {ob d : Nat} : ∀ (n j : Nat) {K : TS → Option R} {K' : St → Prop} {s : TS}, opensT ob d n j K s = some r → (∀ s, K s = some r → K' (eS s)) → opensC ob 0 d n j K' (eS s)
 | 0, j, K, K', s, h, hK => hK _ h
 | n + 1, j, K, K', s, h, hK => openT_sound h fun s1 h1 => opensT_sound n (j + 1) h1 hK
theorem dropTake_e (off n : Nat) (l : List V) : eL (dropTake off n l) = ((eL l).drop off).take n := by
 simp only [dropTake, eL_map, List.map_take, List.map_drop]
theorem valV_e (t : Nat) (cs : List V) : AM.valOf T t (eL cs) = e (valV T t cs) := by
 unfold AM.valOf valV
 cases (T t).kind <;> first | rfl | exact (e_lkV cs 0).symm
theorem loadBT_sound {t ob off : Nat} {d : Option Tmp} (hK : ∀ s, K s = some r → K' (eS s)) (h : loadBT T t ob off d K s = some r) : loadB T t ob 0 off d K' (eS s) := by
 unfold loadBT at h
 split at h
 ·rename_i n cs hg
  obtain ⟨h1, h2⟩ := chkO_some h
  unfold loadB
  rw [getOb_box hg]
  simp only [List.getElem?_cons_zero]
  rw [← dropTake_e, valV_e, hasOwn_e, eL_length]
  exact chk_mk h1 (Kq hK (setD_e _ _) h2)
 ·cases h
theorem shVL_spec : ∀ (ks : List TK) (cs : List V), shVL T ks cs = true → shapeL T ks (eL cs)
 | [], [], _ => rfl
 | [], _ :: _, h => by cases h
 | k :: ks, [], h => by cases h
 | k :: ks, c :: cs, h => by
  simp only [shVL, Bool.and_eq_true] at h
  refine ⟨?_, shVL_spec ks cs h.2⟩
  have h1 := h.1
  cases k <;> cases c <;> simp only [e, eqK, decide_eq_true_eq, beq_iff_eq, Bool.false_eq_true] at h1 ⊢ <;> first | exact h1 | trivial
theorem shVL_gen : ∀ (ks : List TK) (cs : List V) (B : List SV → Prop), shVL T ks cs = true → (∀ row, B row) → genRow T ks B
 | [], [], B, _, hB => hB _
 | [], _ :: _, B, h, _ => by cases h
 | k :: ks, [], B, h, _ => by cases h
 | k :: ks, c :: cs, B, h, hB => by
  simp only [shVL, Bool.and_eq_true] at h
  have h1 := h.1
  cases k with
  | int k => exact fun n => shVL_gen ks cs _ h.2 fun row => hB _
  | bool => exact fun n => shVL_gen ks cs _ h.2 fun row => hB _
  | str => exact fun n => shVL_gen ks cs _ h.2 fun row => hB _
  | slice t => exact fun n => shVL_gen ks cs _ h.2 fun row => hB _
  | _ => simp at h1
theorem tload {t : TypeId} {x : Operand} (ho : o.op = .load t x) (hK : ∀ s, K s = some r → K' (eS s)) (h : tstep T C o s K = some r) : stepK T C' o (eS s) K' := by
 simp only [tstep, ho] at h
 simp only [stepK, ho]
 unfold loadT at h
 unfold loadN
 rw [e_evT]
 split at h
 ·rename_i cs hv
  rw [hv]
  obtain ⟨h1, h2⟩ := chkO_some h
  simp only [e]
  rw [eL_length]
  refine chk_mk h1 (Kq hK ?_ h2)
  have := dropTake_e 0 (T t).size cs
  simp only [List.drop_zero] at this
  rw [← this, valV_e, setD_e]
 ·rename_i ob i off hv
  rw [hv]
  simp only [e]
  split at h
  ·rename_i n cs hg
   rw [getOb_box hg]
   simp only
   cases i with
   | succ i => cases h
   | zero =>
    simp only at h
    refine opensT_sound _ _ h fun s1 h1 => ?_
    unfold loadXT at h1
    unfold loadX
    rw [e_evT]
    split at h1
    ·rename_i ob1 i1 off1 hv1
     rw [hv1]
     cases i1 with
     | succ i => cases h1
     | zero => exact loadBT_sound hK h1
    ·cases h1
  ·rename_i n g dd l hg
   rw [getOb_arr hg]
   simp only
   obtain ⟨h1, h2⟩ := chkO_some h
   simp only [Bool.and_eq_true, Bool.not_eq_true'] at h1
   obtain ⟨y, hy, h3⟩ := atO_some h2
   obtain ⟨h4, h5⟩ := chkO_some h3
   simp only [Bool.and_eq_true, Bool.not_eq_true'] at h4
   have hrow : (l.map (encC dd g))[i]? = some (encC dd g y) := by rw [List.getElem?_map, hy]; rfl
   have hlt : i < (l.map (encC dd g)).length := lt_of_some hrow
   unfold loadA
   split
   ·rename_i hk; rw [hk] at h1; cases h1.2
   ·refine chk_mk h1.1 ⟨hlt, fun row hr => ?_⟩
    rw [hrow] at hr
    simp only [Option.some.injEq] at hr
    subst hr
    have hcs : eL (dropTake off (T t).size (cells dd g y)) = ((encC dd g y).drop off).take (T t).size := by rw [dropTake_e, eL_cells]
    refine ⟨⟨by rw [encC_length]; exact ble_le h4.1.1, by rw [← hcs]; exact shVL_spec _ _ h4.1.2⟩, shVL_gen _ _ _ h4.1.2 fun row hrw => ?_⟩
    rw [← hcs] at hrw
    subst hrw
    rw [valV_e, hasOwn_e]
    exact chk_mk (by rw [h4.2]; rfl) (Kq hK (setD_e _ _) h5)
  ·cases h
 ·cases h
theorem kSk_e (hK : ∀ s, K s = some r → K' (eS s)) {d : Option Tmp} : ∀ s, kSkT d K s = some r → kSk d K' (eS s) := fun s h => Kq hK (setD_e d .sk) h
theorem nrmV_nil : ∀ (ks : List TK) (vs : List V), nilL (eL vs) (eL (nrmV T ks vs))
 | [], [] => rfl
 | _ :: _, [] => rfl
 | [], v :: vs => ⟨.inl rfl, nrmV_nil [] vs⟩
 | k :: ks, v :: vs => by
  simp only [nrmV, eL]
  refine ⟨?_, nrmV_nil ks vs⟩
  split
  ·split
   ·exact .inr ⟨rfl, _, rfl⟩
   ·exact .inl rfl
  ·exact .inl rfl
theorem tstore {t : TypeId} {x y : Operand} (ho : o.op = .store t x y) (hK : ∀ s, K s = some r → K' (eS s)) (h : tstep T C o s K = some r) : stepK T C' o (eS s) K' := by
 simp only [tstep, ho] at h
 simp only [stepK, ho]
 unfold storeT at h
 unfold storeN
 rw [e_evT, e_evT]
 split at h
 ·rename_i ob i off hv
  rw [hv]
  simp only [e]
  rw [strip_e]
  split at h
  ·rename_i n cs hg
   rw [getOb_box hg]
   simp only
   cases i with
   | succ i => cases h
   | zero =>
    simp only at h
    obtain ⟨h1, h2⟩ := chkO_some h
    simp only [Bool.and_eq_true] at h1
    simp only [List.getElem?_cons_zero]
    rw [cellsOf_e, eL_length, cells1_e, eL_length]
    refine chk_mk (by simp only [h1.1.1.1, h1.1.1.2, h1.1.2, Bool.true_or, Bool.and_self]) (chk_mk h1.2 ?_)
    rw [← eL_wrV, setCells_box hg (wrV_length _ _ _ (by rw [eq_of_beq h1.1.1.2]; exact ble_le h1.2))]
    have hn : (stripT s y).n = s.n := by
     unfold stripT
     split
     ·split <;> rfl
     ·rfl
    rw [hn]
    exact kSk_e hK _ h2
  ·rename_i n g dd l hg
   rw [getOb_arr hg]
   simp only
   obtain ⟨h1, h2⟩ := chkO_some h
   simp only [Bool.and_eq_true] at h1
   rw [cellsOf_e, eL_length, cells1_e, plainL_e]
   refine chk_mk (by simp only [h1.1.1.1.1, h1.1.1.1.2, h1.1.1.2, h1.1.2, Bool.or_true, Bool.and_self]) ?_
   obtain ⟨z, hz, h3⟩ := atO_some h2
   obtain ⟨q, rest, h4, h5⟩ := rdC_enc g _ _ h3
   have hrow : (l.map (encC dd g))[i]? = some (encC dd g z) := by rw [List.getElem?_map, hz]; rfl
   refine ⟨lt_of_some hrow, fun row hr => ?_⟩
   rw [hrow] at hr
   simp only [Option.some.injEq] at hr
   subst hr
   refine ⟨by rw [encC_length]; exact ble_le h1.2, _, nrmV_nil (T := T) (flat T 4 t) _, ?_⟩
   cases rest with
   | cons a b => cases h4
   | nil =>
    simp only [eL, List.append_nil, eL_wrV, eL_cells] at h5
    rw [h5]
    have hset : (l.map (encC dd g)).set i (encC dd g q) = (l.set i q).map (encC dd g) := by rw [List.map_set]
    have hn : (stripT s y).n = s.n := by
     unfold stripT
     split
     ·split <;> rfl
     ·rfl
    have hst : setCellsAt (eS (stripT s y)) ob (l.map (encC dd g)) i (encC dd g q) = eS ⟨s.n, (stripT s y).al, setArrT g dd (stripT s y).ob ob (l.set i q)⟩ := by
     simp only [setCellsAt, hset, eS, setArr_e _ hg, hn]
    rw [hst]
    exact kSk_e hK _ h4
  ·cases h
 ·cases h
end
end Go.TM
end
section
namespace Go.TM
open Go.AM
section
variable {R : Type} {T : Nat → TI} {C : TCall R} {C' : CallP} {o : Oper} {s : TS} {K : TS → Option R} {K' : St → Prop} {r : R}
theorem tnilCheck {x : Operand} (ho : o.op = .nilCheck x) (hK : ∀ s, K s = some r → K' (eS s)) (h : tstep T C o s K = some r) : stepK T C' o (eS s) K' := by
 simp only [tstep, ho] at h
 simp only [stepK, stepK0, ho]
 rw [e_evT]
 split at h
 ·rename_i hv; rw [hv]; exact Kq hK (setD_e _ (.p _ _ _)) h
 ·rename_i hv; rw [hv]; exact Kq hK (setD_e _ (.ro _)) h
 ·cases h
theorem binT_sound {op : BinOp} {x y : V} {K : V → Option R} {K' : SV → Prop} (hb : ∀ p q, ¬ (x = .b p ∧ y = .b q)) (h : binT op x y K = some r) (hK : ∀ v, K v = some r → K' (e v)) : binN op (e x) (e y) K' := by
 cases x <;> cases y <;> simp only [binT] at h <;> try cases h
 case b.b p q => exact absurd ⟨rfl, rfl⟩ (hb p q)
 case i.i k a k' b =>
  simp only [e, binN]
  have hk : ∀ {A : Option R}, chkO (eqK k k') A = some r → decide (k = k') = true ∧ A = some r := fun h => chkO_some h
  cases op with
  | add => obtain ⟨h1, h2⟩ := hk h; exact chk_mk h1 (hK _ h2)
  | sub => obtain ⟨h1, h2⟩ := hk h; exact chk_mk h1 (hK _ h2)
  | mul => obtain ⟨h1, h2⟩ := hk h; exact chk_mk h1 (hK _ h2)
  | quo => obtain ⟨h1, h2⟩ := hk h; obtain ⟨h3, h4⟩ := grdO_some h2; exact chk_mk h1 ⟨by simpa using h3, hK _ h4⟩
  | rem => obtain ⟨h1, h2⟩ := hk h; obtain ⟨h3, h4⟩ := grdO_some h2; exact chk_mk h1 ⟨by simpa using h3, hK _ h4⟩
  | shl => obtain ⟨h3, h4⟩ := grdO_some h; exact ⟨by simpa using h3, hK _ h4⟩
  | shr => obtain ⟨h3, h4⟩ := grdO_some h; exact ⟨by simpa using h3, hK _ h4⟩
  | and => simp only [bitI] at h ⊢; obtain ⟨h1, h2⟩ := hk h; exact chk_mk h1 (hK _ h2)
  | or => simp only [bitI] at h ⊢; obtain ⟨h1, h2⟩ := hk h; exact chk_mk h1 (hK _ h2)
  | xor => simp only [bitI] at h ⊢; obtain ⟨h1, h2⟩ := hk h; exact chk_mk h1 (hK _ h2)
  | eql => simp only [cmpB] at h ⊢; obtain ⟨h1, h2⟩ := hk h; exact chk_mk h1 (hK _ h2)
  | neq => simp only [cmpB] at h ⊢; obtain ⟨h1, h2⟩ := hk h; exact chk_mk h1 (hK _ h2)
  | lss => simp only [cmpB] at h ⊢; obtain ⟨h1, h2⟩ := hk h; exact chk_mk h1 (hK _ h2)
  | leq => simp only [cmpB] at h ⊢; obtain ⟨h1, h2⟩ := hk h; exact chk_mk h1 (hK _ h2)
  | gtr => simp only [cmpB] at h ⊢; obtain ⟨h1, h2⟩ := hk h; exact chk_mk h1 (hK _ h2)
  | geq => simp only [cmpB] at h ⊢; obtain ⟨h1, h2⟩ := hk h; exact chk_mk h1 (hK _ h2)
  | _ => simp only [cmpB] at h; cases h
 case s.s a b =>
  simp only [e, binN]
  cases op with
  | add => obtain ⟨h3, h4⟩ := grdO_some h; exact ⟨by simpa using h3, hK _ h4⟩
  | eql => exact hK _ h
  | neq => exact hK _ h
  | lss => exact hK _ h
  | leq => exact hK _ h
  | gtr => exact hK _ h
  | geq => exact hK _ h
  | _ => simp only [strB] at h; cases h
theorem eqFV_e : ∀ (n : Nat) (fs : List (Nat × Nat)) (a b : List V) (q : Bool), eqFV T n fs a b = some q → eqFs T n fs (eL a) (eL b) = some q
 | _, [], [], [], q, h => h
 | _, [], [], _ :: _, q, h => by cases h
 | _, [], _ :: _, _, q, h => by cases h
 | _, (_, _) :: _, [], _, q, h => by cases h
 | _, (_, _) :: _, _ :: _, [], q, h => by cases h
 | n, (t, o) :: fs, x :: l, y :: m, q, h => by
  simp only [eqFV] at h
  simp only [eL, eqFs]
  cases hn : o == n with
  | false => rw [hn, cond_false] at h; cases h
  | true =>
   rw [hn, cond_true] at h
   rw [if_pos (eq_of_beq hn)]
   split at h
   ·rename_i k0 k a k' b q' hk hq
    rw [hk]
    simp only [e, cellB]
    rw [eqFV_e _ _ _ _ _ hq]
    cases hkk : eqK k k' with
    | false => rw [hkk, cond_false] at h; cases h
    | true =>
     rw [hkk, cond_true] at h
     rw [if_pos (of_decide_eq_true hkk)]
     exact h
   ·rename_i a b q' hk hq
    rw [hk]
    simp only [e, cellB]
    rw [eqFV_e _ _ _ _ _ hq]
    exact h
   ·rename_i a b q' hk hq
    rw [hk]
    simp only [e, cellB]
    rw [eqFV_e _ _ _ _ _ hq]
    exact h
   ·cases h
theorem tbinOp {op : BinOp} {t ty : TypeId} {x y : Operand} (ho : o.op = .binOp op t x y ty) (hK : ∀ s, K s = some r → K' (eS s)) (h : tstep T C o s K = some r) : stepK T C' o (eS s) K' := by
 simp only [tstep, ho] at h
 simp only [stepK, ho]
 rw [e_evT, e_evT]
 split at h
 ·rename_i a b hx hy
  rw [hx, hy]
  simp only [e, stepK0, ho]
  rw [e_evT, e_evT, hx, hy]
  simp only [e]
  split at h
  ·rename_i fs hk
   rw [hk]
   simp only
   split at h
   ·rename_i q hq; rw [eqFV_e _ _ _ _ _ hq]; exact Kq hK (setD_e _ (.b _)) h
   ·rename_i q hq; rw [eqFV_e _ _ _ _ _ hq]; exact Kq hK (setD_e _ (.b _)) h
   ·cases h
  ·cases h
 ·rename_i g l hx hy
  rw [hx, hy]
  simp only [e, stepK0, ho]
  rw [e_evT, e_evT, hx, hy]
  simp only [e]
  split at h
  ·rename_i t' hk
   rw [hk]
   simp only
   obtain ⟨h1, h2⟩ := chkO_some h
   obtain ⟨h3, h4⟩ := grdO_some h2
   simp only [Bool.not_eq_true', decide_eq_false_iff_not] at h3
   refine ⟨h1, fun z hz => ?_⟩
   have : z = false := hz (by intro hl; rw [List.map_eq_nil_iff] at hl; rw [hl] at h3; exact h3 rfl)
   subst this
   exact Kq hK (setD_e _ (.b _)) h4
  ·rename_i t' hk
   rw [hk]
   simp only
   obtain ⟨h1, h2⟩ := chkO_some h
   obtain ⟨h3, h4⟩ := grdO_some h2
   simp only [Bool.not_eq_true', decide_eq_false_iff_not] at h3
   refine ⟨h1, fun z hz => ?_⟩
   have : z = true := hz (by intro hl; rw [List.map_eq_nil_iff] at hl; rw [hl] at h3; exact h3 rfl)
   subst this
   exact Kq hK (setD_e _ (.b _)) h4
  ·cases h
 ·rename_i p q hx hy
  rw [hx, hy]
  simp only [e, stepK0, ho]
  rw [e_evT, e_evT, hx, hy]
  simp only [e]
  split at h
  ·rename_i hk; rw [hk]; exact Kq hK (setD_e _ (.b _)) h
  ·rename_i hk; rw [hk]; exact Kq hK (setD_e _ (.b _)) h
  ·cases h
 ·rename_i k a k' b hx hy
  rw [hx, hy]
  simp only [e]
  exact binT_sound (x := .i k a) (y := .i k' b) (fun _ _ hh => by cases hh.1) h fun v hv => Kq hK (setD_e _ v) hv
 ·rename_i a b hx hy
  rw [hx, hy]
  simp only [e]
  exact binT_sound (x := .s a) (y := .s b) (fun _ _ hh => by cases hh.1) h fun v hv => Kq hK (setD_e _ v) hv
 ·cases h
theorem tunOp {op : UnOp} {t : TypeId} {x : Operand} (ho : o.op = .unOp op t x) (hK : ∀ s, K s = some r → K' (eS s)) (h : tstep T C o s K = some r) : stepK T C' o (eS s) K' := by
 simp only [tstep, ho] at h
 simp only [stepK, stepK0, ho]
 rw [e_evT]
 split at h
 ·rename_i hv; rw [hv]; exact Kq hK (setD_e _ (.b _)) h
 ·rename_i hv; rw [hv]; exact Kq hK (setD_e _ (.i _ _)) h
 ·cases h
theorem castO_some {g g' : GT} {l : List g'.Den} {K : List g.Den → Option R} (h : castO l K = some r) : ∃ hs : g.same g' = true, K (castL hs l) = some r := by
 unfold castO at h
 split at h
 ·exact ⟨_, h⟩
 ·cases h
theorem bytesOf_enc : ∀ l : List UInt8, bytesOf (l.map (encC false .byte)) = some l
 | [] => rfl
 | c :: l => by
  have hc : UInt8.ofNat (((c : UInt8).toNat : Int)).toNat = c := by simp
  have h1 : AM.byteOf (encC false .byte c) = some c := by
   show some (UInt8.ofNat (((c : UInt8).toNat : Int)).toNat) = some c
   rw [hc]
  have h2 := bytesOf_enc l
  rw [List.map_cons]
  unfold bytesOf
  rw [h1, h2]
theorem tconvert {src dst : TypeId} {x : Operand} (ho : o.op = .convert src dst x) (hK : ∀ s, K s = some r → K' (eS s)) (h : tstep T C o s K = some r) : stepK T C' o (eS s) K' := by
 simp only [tstep, ho] at h
 simp only [stepK, ho]
 rw [e_evT]
 split at h
 ·rename_i k k' n hk hv
  rw [hk, hv]
  simp only [e]
  obtain ⟨h1, h2⟩ := chkO_some h
  exact chk_mk h1 (Kq hK (setD_e _ (.i _ _)) h2)
 ·rename_i t l hk hv
  rw [hk, hv]
  simp only [e, stepK0, ho]
  rw [e_evT, hk, hv]
  simp only [e]
  split at h
  ·rename_i h1 h2
   rw [h1, h2]
   exact Kq hK (setD_e _ (.sl .byte _)) h
  ·cases h
 ·rename_i l hk hv
  rw [hk, hv]
  simp only [e, stepK0, ho]
  rw [e_evT, hk, hv]
  simp only [e]
  split at h
  ·rename_i h1; rw [h1]; exact Kq hK (setD_e _ (.s _)) h
  ·cases h
 ·rename_i g l hk hv
  rw [hk, hv]
  simp only [e, stepK0, ho]
  rw [e_evT, hk, hv]
  simp only [e]
  split at h
  ·rename_i t h1
   rw [h1]
   simp only
   split at h
   ·rename_i h2
    rw [h2]
    obtain ⟨hs, h3⟩ := castO_some h
    have hm := castL_map hs l false
    rw [← hm, bytesOf_enc]
    exact Kq hK (setD_e _ (.s _)) h3
   ·cases h
  ·cases h
 ·rename_i g d l hk hv
  rw [hk, hv]
  simp only [e, stepK0, ho]
  rw [e_evT, hk, hv]
  simp only [e]
  split at h
  ·rename_i t h1
   rw [h1]
   simp only
   split at h
   ·rename_i h2
    rw [h2]
    obtain ⟨hs, h3⟩ := castO_some h
    have hm := castL_map' hs l (d := false) (d' := d) (.inr rfl)
    rw [← hm, bytesOf_enc]
    exact Kq hK (setD_e _ (.s _)) h3
   ·cases h
  ·cases h
 ·cases h
theorem evTL_e : ∀ xs : List Operand, xs.map (AM.ev (eS s).env) = eL (evTL s xs)
 | [] => rfl
 | x :: l => by simp only [List.map_cons, evTL, eL, e_evT, evTL_e l]
theorem tmakeFunc {f : Fn} {first caps : Array Operand} (ho : o.op = .makeFunc f first caps) (hK : ∀ s, K s = some r → K' (eS s)) (h : tstep T C o s K = some r) : stepK T C' o (eS s) K' := by
 simp only [tstep, ho] at h
 simp only [stepK, ho]
 split at h
 ·obtain ⟨h1, h2⟩ := chkO_some h
  rw [evTL_e, hasOwnL_e]
  exact chk_mk h1 (Kq hK (setD_e _ (.fn _ _)) h2)
 ·cases h
theorem eqSVs_eq : ∀ (a b : List SV), tstep.eqSVs a b = true → a = b
 | [], [], _ => rfl
 | [], _ :: _, h => by simp [tstep.eqSVs] at h
 | _ :: _, [], h => by simp [tstep.eqSVs] at h
 | x :: l, y :: m, h => by
  simp only [tstep.eqSVs, Bool.and_eq_true] at h
  rw [eqSVs_eq l m h.2]
  congr 1
  have h1 := h.1
  split at h1
  ·simp only [eqK, Bool.and_eq_true, decide_eq_true_eq] at h1; rw [h1.1, h1.2]
  ·rw [eq_of_beq h1]
  ·rfl
  ·rw [eq_of_beq h1]
  ·cases h1
theorem tmakeSlice {t : TypeId} {x y : Operand} (ho : o.op = .makeSlice t x y) (hK : ∀ s, K s = some r → K' (eS s)) (h : tstep T C o s K = some r) : stepK T C' o (eS s) K' := by
 simp only [tstep, ho] at h
 simp only [stepK, stepK0, ho]
 rw [e_evT, e_evT]
 split at h
 ·rename_i t' n m hk hx hy
  rw [hk, hx, hy]
  simp only [e]
  split at h
  ·rename_i g hg
   obtain ⟨h1, h2⟩ := chkO_some h
   obtain ⟨h3, h4⟩ := grdO_some h2
   simp only [Bool.and_eq_true, decide_eq_true_eq] at h1 h3
   refine ⟨h1.1.1.1, h3.1.1.1, h3.1.1.2, h3.1.2, h3.2, Kq hK ?_ h4⟩
   have := setD_e (s := s) o.dst (.own g true (List.replicate n.toNat g.dflt))
   simp only [e, List.map_replicate] at this
   rw [eqSVs_eq _ _ h1.1.2, ← eq_of_beq h1.2]
   exact this
  ·cases h
 ·cases h
theorem optInt_e (d : Int) : ∀ x : Option Operand, optInt (eS s).env d x = optIT s d x
 | none => rfl
 | some x => by
  simp only [optInt, optIT, e_evT]
  cases evT s x <;> rfl
theorem fieldAddr_aux (cs : List V) (n : Nat) : eL (cs.drop n) = (eL cs).drop n := by simp only [eL_map, List.map_drop]
theorem tfieldAddr {t : TypeId} {x : Operand} {f : Nat} (ho : o.op = .fieldAddr t x f) (hK : ∀ s, K s = some r → K' (eS s)) (h : tstep T C o s K = some r) : stepK T C' o (eS s) K' := by
 simp only [tstep, ho] at h
 simp only [stepK, ho]
 rw [e_evT]
 split at h
 ·rename_i fs a i off hk hv
  rw [hk, hv]
  simp only [e]
  split at h
  ·rename_i ft fo hf
   rw [hf]
   obtain ⟨h1, h2⟩ := chkO_some h
   exact chk_mk h1 (Kq hK (setD_e _ (.p _ _ _)) h2)
  ·cases h
 ·rename_i fs cs hk hv
  rw [hk, hv]
  simp only [e]
  split at h
  ·rename_i ft fo hf
   rw [hf]
   obtain ⟨h1, h2⟩ := chkO_some h
   refine chk_mk h1 (Kq hK ?_ h2)
   rw [← fieldAddr_aux]
   exact setD_e _ (.ro _)
  ·cases h
 ·cases h
theorem tfield {t : TypeId} {x : Operand} {f : Nat} (ho : o.op = .field t x f) (hK : ∀ s, K s = some r → K' (eS s)) (h : tstep T C o s K = some r) : stepK T C' o (eS s) K' := by
 simp only [tstep, ho] at h
 simp only [stepK, ho]
 rw [e_evT]
 split at h
 ·rename_i fs cs hk hv
  rw [hk, hv]
  simp only [e]
  split at h
  ·rename_i ft fo hf
   rw [hf]
   obtain ⟨h1, h2⟩ := chkO_some h
   simp only
   rw [hasOwnL_e, eL_length, ← dropTake_e, valV_e]
   exact chk_mk h1 (Kq hK (setD_e _ _) h2)
  ·cases h
 ·cases h
theorem idxT_sound {g : GT} {l : List g.Den} {n : Int} {t : Nat} {d : Option Tmp} (ht : tyOk T t g = true) (hK : ∀ s, K s = some r → K' (eS s)) (h : idxT s d K g l n = some r) : (0 ≤ n ∧ n < (l.map (encC false g)).length) ∧ ixN T t (l.map (encC false g)) n.toNat d (eS s) K' := by
 obtain ⟨h1, h2⟩ := grdO_some h
 have h1 := of_decide_eq_true h1
 obtain ⟨x, hx, h3⟩ := atO_some h2
 have hlt := lt_of_some hx
 refine ⟨⟨h1, by rw [List.length_map]; omega⟩, tyOk_shapes ht l, tyOk_gen ht fun row hr => ?_⟩
 rw [List.getElem?_map, hx] at hr
 simp only [Option.map_some, Option.some.injEq] at hr
 subst hr
 rw [← eL_cells]
 exact Kq hK (setD_e _ (.ro _)) h3
theorem frzL_app : ∀ a b : List SV, frzL (a ++ b) = frzL a ++ frzL b
 | [], _ => rfl
 | x :: l, b => by simp only [List.cons_append, frzL, frzL_app l b]
theorem frzRR_map : ∀ l : List (List SV), frzRR l = l.map frzL
 | [] => rfl
 | x :: l => by simp only [frzRR, List.map_cons, frzRR_map l]
theorem frz_enc : ∀ (g : GT) (d : Bool) (x : g.Den), frzL (encC d g x) = encC false g x
 | .int _, _, _ => rfl
 | .byte, _, _ => rfl
 | .bool, _, _ => rfl
 | .str, _, _ => rfl
 | .sl g, d, l => by
  cases d with
  | false => rfl
  | true =>
   simp only [encC, frzL, frz, frzRR_map, List.map_map]
   congr 2
   exact List.map_congr_left fun x _ => frz_enc g true x
 | .unit, _, _ => rfl
 | .pair a b, d, x => by simp only [encC, frzL_app, frz_enc a, frz_enc b]
theorem frzRR_enc (g : GT) (d : Bool) (l : List g.Den) : frzRR (l.map (encC d g)) = l.map (encC false g) := by
 rw [frzRR_map, List.map_map]
 exact List.map_congr_left fun x _ => frz_enc g d x
mutual
theorem frz_e : ∀ v : V, frz (e v) = e (frzV v)
 | .own g d l => by simp only [e, frz, frzV, frzRR_enc]
 | .emp g => rfl
 | .agg cs => by simp only [e, frz, frzV, frzVL_e cs]
 | .tup cs => by simp only [e, frz, frzV, frzVL_e cs]
 | .u | .sk | .i _ _ | .b _ | .s _ | .sl _ _ | .ar _ | .p _ _ _ | .ro _ | .nilp | .nil | .fn _ _ => rfl
theorem frzVL_e : ∀ l : List V, frzL (eL l) = eL (frzV.frzVL l)
 | [] => rfl
 | x :: l => by simp only [eL, frzL, frzV.frzVL, frz_e x, frzVL_e l]
end
theorem frzT_e (x : Operand) : frzT (eS s) x = eS (frzTT s x) := by
 cases x with
 | tmp t =>
  simp only [frzT, frzTT]
  rw [e_lookT, hasOwn_e]
  cases hasOwnV (lookT s t)
  ·rfl
  ·simp only [if_true]; rw [frz_e, setE_e]
 | _ => rfl
theorem tindexAddr {t : TypeId} {x y : Operand} (ho : o.op = .indexAddr t x y) (hK : ∀ s, K s = some r → K' (eS s)) (h : tstep T C o s K = some r) : stepK T C' o (eS s) K' := by
 simp only [tstep, ho] at h
 simp only [stepK, ho]
 rw [e_evT, e_evT]
 split at h
 ·rename_i t' g l k n hk hx hy
  rw [hk, hx, hy]
  simp only [e]
  obtain ⟨h1, h2⟩ := chkO_some h
  simp only [Bool.and_eq_true] at h1
  exact chk_mk (by rw [h1.1, (tyOk_spec h1.2).2]; simp) (idxT_sound h1.2 hK h2)
 ·rename_i t' g d l k n hk hx hy
  rw [hk, hx, hy]
  simp only [e]
  obtain ⟨h1, h2⟩ := chkO_some h
  simp only [Bool.and_eq_true] at h1
  refine chk_mk (by rw [h1.1, (tyOk_spec h1.2).2]; simp) ?_
  rw [frzRR_enc, frzT_e, List.length_map]
  have := idxT_sound h1.2 hK h2
  rw [List.length_map] at this
  exact this
 ·rename_i t' a k n hk hx hy
  rw [hk, hx, hy]
  simp only [e]
  split at h
  ·rename_i m g d l hg
   rw [getOb_arr hg]
   obtain ⟨h1, h2⟩ := chkO_some h
   obtain ⟨h3, h4⟩ := grdO_some h2
   simp only [Bool.and_eq_true, decide_eq_true_eq] at h3
   refine chk_mk h1 ⟨⟨h3.1, by simp only [List.length_map]; exact h3.2⟩, Kq hK (setD_e _ (.p _ _ _)) h4⟩
  ·cases h
 ·cases h
theorem tindex {t : TypeId} {x y : Operand} (ho : o.op = .index t x y) (hK : ∀ s, K s = some r → K' (eS s)) (h : tstep T C o s K = some r) : stepK T C' o (eS s) K' := by
 simp only [tstep, ho] at h
 simp only [stepK, stepK0, ho]
 rw [e_evT, e_evT]
 split at h
 ·rename_i l k n hk hx hy
  rw [hk, hx, hy]
  simp only [e]
  obtain ⟨h1, h2⟩ := grdO_some h
  have h1 := of_decide_eq_true h1
  obtain ⟨c, hc, h3⟩ := atO_some h2
  have hlt := lt_of_some hc
  refine ⟨⟨h1, by omega⟩, fun c' hc' => ?_⟩
  rw [hc] at hc'
  simp only [Option.some.injEq] at hc'
  subst hc'
  exact Kq hK (setD_e _ (.i _ _)) h3
 ·cases h
theorem textract {x : Operand} {j : Nat} (ho : o.op = .extract x j) (hK : ∀ s, K s = some r → K' (eS s)) (h : tstep T C o s K = some r) : stepK T C' o (eS s) K' := by
 simp only [tstep, ho] at h
 simp only [stepK, ho]
 split at h
 ·rename_i t
  simp only
  rw [e_lookT]
  split at h
  ·rename_i vs hv
   rw [hv]
   simp only [e]
   obtain ⟨h1, h2⟩ := chkO_some h
   rw [eL_length, ← e_lkV, hasOwn_e]
   refine chk_mk h1 ?_
   revert h2
   cases hasOwnV (lkV vs j)
   ·intro h2; exact Kq hK (setD_e _ _) h2
   ·intro h2
    refine Kq hK ?_ h2
    simp only
    rw [show SV.tup (upd (eL vs) j .u) = e (.tup (updV vs j .u)) by simp only [e, eL_updV], setE_e, setD_e]
  ·cases h
 ·cases h
end
end Go.TM
end
section
namespace Go.TM
open Go.AM
section
variable {R : Type} {T : Nat → TI} {C : TCall R} {C' : CallP} {o : Oper} {s : TS} {K : TS → Option R} {K' : St → Prop} {r : R}
theorem lenT_e {v : V} {n : Nat} (h : lenT s v = some n) : lenOf (eS s) (e v) = some n := by
 unfold lenT at h
 split at h
 ·exact h
 ·exact h
 ·rename_i g l; simp only [e, lenOf, List.length_map]; exact h
 ·rename_i g d l; simp only [e, lenOf, List.length_map]; exact h
 ·rename_i a
  simp only [e, lenOf]
  split at h
  ·rename_i m g d l hg; rw [getOb_arr hg]; simp only [List.length_map]; exact h
  ·rename_i m cs hg; rw [getOb_box hg]; exact h
  ·cases h
 ·cases h
theorem takeT_sound {x : Operand} {k0 : Nat} {Kn : TS → Option R} {K : (g : GT) → Bool → List g.Den → TS → Option R} (h : takeT s k0 x Kn K = some r) :
  (∃ s', takeRows (eS s) k0 x = some (k0, [], eS s') ∧ Kn s' = some r) ∨
  ∃ (g : GT) (d : Bool) (l : List g.Den) (s' : TS), takeRows (eS s) k0 x = some (g.sz, l.map (encC d g), eS s') ∧ K g d l s' = some r := by
 unfold takeT at h
 unfold takeRows
 rw [e_evT]
 split at h
 ·rename_i hv; rw [hv]; exact .inl ⟨_, rfl, h⟩
 ·rename_i g hv; rw [hv]; obtain ⟨h1, h2⟩ := chkO_some h; exact .inl ⟨_, by simp only [e, strip_e, eq_of_beq h1], h2⟩
 ·rename_i g d l hv; rw [hv]; exact .inr ⟨g, d, l, _, by simp only [e, strip_e], h⟩
 ·rename_i a hv
  rw [hv]
  simp only [e]
  split at h
  ·rename_i m g d l hg
   rw [getOb_arr hg]
   exact .inr ⟨g, d, l, _, by simp only [killSt_e, Bool.false_eq_true, if_false], h⟩
  ·cases h
 ·cases h
theorem moreT_sound {y : Operand} {Kn : TS → Option R} {K : (g : GT) → Bool → List g.Den → TS → Option R} (h : moreT s y Kn K = some r) :
  (∃ s' k, moreRows (eS s) y = some (k, [], eS s') ∧ Kn s' = some r) ∨
  ∃ (g : GT) (d : Bool) (l : List g.Den) (s' : TS), moreRows (eS s) y = some (g.sz, l.map (encC d g), eS s') ∧ K g d l s' = some r := by
 unfold moreT at h
 unfold moreRows
 rw [e_evT]
 split at h
 ·rename_i hv; rw [hv]; exact .inl ⟨_, _, rfl, h⟩
 ·rename_i g hv; rw [hv]; exact .inl ⟨_, g.sz, by simp only [e, strip_e], h⟩
 ·rename_i g d l hv; rw [hv]; exact .inr ⟨g, d, l, _, by simp only [e, strip_e], h⟩
 ·rename_i g l hv; rw [hv]; exact .inr ⟨g, false, l, _, by simp only [e], h⟩
 ·cases h
theorem bnd {a b : Nat} (h : (decide (a ≤ maxI) && decide (b ≤ maxB)) = true) : a ≤ 9223372036854775807 ∧ b ≤ 140737488355328 := by
 simp only [Bool.and_eq_true, decide_eq_true_eq] at h
 exact h
theorem appT_sound {t : Nat} {g : GT} {x y : Operand} {d : Option Tmp} (hg : g.sz = (T t).size) (hK : ∀ s, K s = some r → K' (eS s)) (h : appT T t g x y d s K = some r) :
  ∃ k' rows' st1 k rows st2, moreRows (eS s) y = some (k', rows', st1) ∧ takeRows st1 (T t).size x = some (k, rows, st2) ∧ k = (T t).size ∧ (k' = (T t).size ∨ rows' = []) ∧
   (rows.length + rows'.length ≤ 9223372036854775807 ∧ (rows.length + rows'.length) * (T t).bytes ≤ 140737488355328) ∧ K' (setD st2 d (.own (T t).size (rows ++ rows'))) := by
 unfold appT at h
 rcases moreT_sound h with ⟨s1, k', hm, h⟩ | ⟨g', d', l', s1, hm, h⟩
 ·rcases takeT_sound h with ⟨s2, ht, h⟩ | ⟨g1, d1, l1, s2, ht, h⟩
  ·refine ⟨_, _, _, _, _, _, hm, ht, rfl, .inr rfl, ⟨by simp, by simp⟩, Kq hK ?_ h⟩
   have := setD_e (s := s2) d (.own g true [])
   simp only [e, hg] at this
   exact this
  ·obtain ⟨hs, h1⟩ := castO_some h
   obtain ⟨h2, h3⟩ := grdO_some h1
   have hb := bnd h2
   have hl : (castL hs l1).length = l1.length := by
    have := congrArg List.length (castL_map hs l1 true)
    simpa using this
   rw [hl] at hb
   refine ⟨_, _, _, _, _, _, hm, ht, by rw [← same_sz hs, hg], .inr rfl, ⟨by simpa using hb.1, by simpa using hb.2⟩, Kq hK ?_ h3⟩
   have := setD_e (s := s2) d (.own g d1 (castL hs l1))
   simp only [e, hg, castL_map] at this
   rw [List.append_nil]
   exact this
 ·obtain ⟨hs, h1⟩ := castO_some h
  have hl' : (castL hs l').length = l'.length := by
   have := congrArg List.length (castL_map hs l' true)
   simpa using this
  rcases takeT_sound h1 with ⟨s2, ht, h2⟩ | ⟨g1, d1, l1, s2, ht, h2⟩
  ·obtain ⟨h3, h4⟩ := grdO_some h2
   have hb := bnd h3
   rw [hl'] at hb
   refine ⟨_, _, _, _, _, _, hm, ht, rfl, .inl (by rw [← same_sz hs, hg]), ⟨by simpa using hb.1, by simpa using hb.2⟩, Kq hK ?_ h4⟩
   have := setD_e (s := s2) d (.own g d' (castL hs l'))
   simp only [e, hg, castL_map] at this
   exact this
  ·obtain ⟨hs1, h3⟩ := castO_some h2
   obtain ⟨h4, h5⟩ := chkO_some h3
   obtain ⟨h6, h7⟩ := grdO_some h5
   have hb := bnd h6
   have hl1 : (castL hs1 l1).length = l1.length := by
    have := congrArg List.length (castL_map hs1 l1 true)
    simpa using this
   rw [hl', hl1] at hb
   refine ⟨_, _, _, _, _, _, hm, ht, by rw [← same_sz hs1, hg], .inl (by rw [← same_sz hs, hg]), ⟨by simpa using hb.1, by simpa using hb.2⟩, Kq hK ?_ h7⟩
   have := setD_e (s := s2) d (.own g d1 (castL hs1 l1 ++ castL hs l'))
   have hd : d1 = d' ∨ g.flat = true := by
    simp only [Bool.or_eq_true, beq_iff_eq] at h4
    exact h4
   simp only [e, hg, List.map_append, castL_map, castL_map' hs l' hd] at this
   exact this
theorem tslice {t : TypeId} {x : Operand} {lo hi mx : Option Operand} (ho : o.op = .slice t x lo hi mx) (hK : ∀ s, K s = some r → K' (eS s)) (h : tstep T C o s K = some r) : stepK T C' o (eS s) K' := by
 simp only [tstep, ho] at h
 simp only [stepK, ho]
 unfold sliceT at h
 unfold sliceN
 rw [e_evT]
 split at h
 ·rename_i hk
  rw [hk]
  split at h
  ·rename_i l hv
   rw [hv]
   simp only [e]
   unfold sliceK
   rw [hk, e_evT, hv]
   simp only [e]
   rw [optInt_e, optInt_e]
   split at h
   ·rename_i a b ha hb
    rw [ha, hb]
    obtain ⟨h1, h2⟩ := grdO_some h
    simp only [Bool.and_eq_true, decide_eq_true_eq] at h1
    exact ⟨h1.1.1, h1.1.2, h1.2, Kq hK (setD_e _ (.s _)) h2⟩
   ·cases h
  ·cases h
 ·rename_i t' hk
  rw [hk]
  split at h
  ·rename_i g l hv
   rw [hv]
   simp only [e]
   obtain ⟨h1, h2⟩ := chkO_some h
   simp only [Bool.and_eq_true] at h1
   refine chk_mk (by simp only [h1.1, h1.2, Bool.and_self]) ?_
   rw [List.length_map]
   have hset : ∀ a b : Nat, setD (eS s) o.dst (SV.sl g.sz (((l.map (encC false g)).take b).drop a)) = eS (setDT s o.dst (.sl g ((l.take b).drop a))) := by
    intro a b
    have := setD_e (s := s) o.dst (.sl g ((l.take b).drop a))
    simp only [e, List.map_take, List.map_drop] at this
    exact this
   split at h2
   ·rw [optInt_e, optInt_e]
    split at h2
    ·rename_i a b ha hb
     rw [ha, hb]
     obtain ⟨h3, h4⟩ := grdO_some h2
     simp only [Bool.and_eq_true, decide_eq_true_eq] at h3
     exact ⟨⟨h3.1.1, h3.1.2, h3.2⟩, Kq hK (hset _ _) h4⟩
    ·cases h2
   ·rename_i m
    simp only
    rw [optInt_e, optInt_e, optInt_e]
    split at h2
    ·rename_i a b' b c ha hb2 hc
     rw [ha, hb2, hc]
     obtain ⟨h3, h4⟩ := grdO_some h2
     simp only [Bool.and_eq_true, decide_eq_true_eq, Bool.not_eq_true', decide_eq_false_iff_not] at h3
     exact ⟨⟨h3.1.1.1.1, h3.1.1.1.2, h3.1.1.2, h3.1.2, h3.2⟩, Kq hK (hset _ _) h4⟩
    ·cases h2
  ·rename_i hv
   rw [hv]
   simp only [e]
   unfold sliceK
   rw [hk, e_evT, hv]
   simp only [e]
   split at h
   ·obtain ⟨h1, h2⟩ := chkO_some h
    exact ⟨h1, Kq hK (setD_e _ .nil) h2⟩
   ·cases h
  ·cases h
  ·rename_i n1 n2 n3
   split at h
   ·rcases takeT_sound h with ⟨s', ht, h⟩ | ⟨g, dd, l, s', ht, h⟩
    ·cases h
    ·obtain ⟨h1, h2⟩ := chkO_some h
     simp only [Bool.and_eq_true] at h1
     have hnsl : ∀ k rows, e (evT s x) ≠ .sl k rows := by
      intro k rows hq
      cases hv : evT s x <;> rw [hv] at hq <;> simp only [e] at hq <;> first | exact n1 _ _ hv | cases hq
     have hnil : e (evT s x) ≠ .nil := by
      intro hq
      cases hv : evT s x <;> rw [hv] at hq <;> simp only [e] at hq <;> first | exact n2 hv | cases hq
     have hmain : (match (none : Option Operand), takeRows (eS s) (T t').size x with
       | none, some (k, rows, st') => (T t').known = true ∧ k = (T t').size ∧ match optInt (eS s).env 0 lo, optInt (eS s).env rows.length hi with
        | some a, some b => 0 ≤ a ∧ a ≤ b ∧ b ≤ rows.length ∧ K' (setD st' o.dst (.own k ((rows.take b.toNat).drop a.toNat)))
        | _, _ => False
       | _, _ => False) := by
      rw [ht]
      simp only
      rw [optInt_e, optInt_e, List.length_map]
      split at h2
      ·rename_i a b ha hb
       rw [ha, hb]
       obtain ⟨h3, h4⟩ := grdO_some h2
       simp only [Bool.and_eq_true, decide_eq_true_eq] at h3
       refine ⟨h1.1, eq_of_beq h1.2, h3.1.1, h3.1.2, h3.2, Kq hK ?_ h4⟩
       have := setD_e (s := s') o.dst (.own g dd ((l.take b.toNat).drop a.toNat))
       simp only [e, List.map_take, List.map_drop] at this
       exact this
      ·cases h2
     unfold sliceK
     rw [hk, e_evT]
     revert hnsl hnil
     generalize e (evT s x) = w
     intro hnsl hnil
     cases w with
     | sl k rows => exact absurd rfl (hnsl _ _)
     | nil => exact absurd rfl hnil
     | _ => exact hmain
   ·cases h
 ·cases h
theorem tcall {c : Call} (hC : ∀ f xs d s (K : TS → Option R) (K' : St → Prop) r, (∀ s, K s = some r → K' (eS s)) → C f xs d s K = some r → C' f xs d (eS s) K') (ho : o.op = .call c) (hK : ∀ s, K s = some r → K' (eS s)) (h : tstep T C o s K = some r) : stepK T C' o (eS s) K' := by
 simp only [tstep, ho] at h
 simp only [stepK, ho]
 split at h
 ·rename_i hc
  rw [hc]
  simp only [stepK0, ho, hc]
  split at h
  ·rename_i x t hx ht
   rw [hx, ht]
   simp only
   rw [e_evT]
   split at h
   ·rename_i l hk hv
    rw [hk, hv]
    exact Kq hK (setD_e _ (.i _ _)) h
   ·rename_i t' v hk
    split at h
    ·rename_i n hn
     have hl := lenT_e hn
     rw [hk]
     simp only
     rw [hl]
     exact Kq hK (setD_e _ (.i _ _)) h
    ·cases h
   ·cases h
  ·cases h
 ·rename_i hc
  rw [hc]
  simp only
  split at h
  ·rename_i x y t t' hx ht
   rw [hx, ht]
   simp only
   split at h
   ·rename_i e1 e2 hk hk'
    rw [hk, hk']
    split at h
    ·rename_i g hg
     obtain ⟨h1, h2⟩ := chkO_some h
     simp only [Bool.and_eq_true] at h1
     obtain ⟨k', rows', st1, k, rows, st2, hm, htk, hk1, hk2, hb, hK⟩ := appT_sound (eq_of_beq h1.2) hK h2
     rw [hm]
     simp only
     rw [htk]
     refine chk_mk ?_ ⟨hb, hK⟩
     rw [h1.1, hk1]
     rcases hk2 with h | h
     ·rw [h]; simp
     ·rw [h]; simp [isNil']
    ·cases h
   ·cases h
  ·cases h
 ·rename_i f hc
  simp only [hc, stepK0, ho]
  exact hC _ _ _ _ _ _ _ hK h
 ·cases h
theorem tstep_sound (hC : ∀ f xs d s (K : TS → Option R) (K' : St → Prop) r, (∀ s, K s = some r → K' (eS s)) → C f xs d s K = some r → C' f xs d (eS s) K') (hK : ∀ s, K s = some r → K' (eS s)) (h : tstep T C o s K = some r) : stepK T C' o (eS s) K' := by
 cases ho : o.op with
 | move x => exact tmove ho hK h
 | assign x => exact tassign ho hK h
 | pick c x y => exact tpick ho hK h
 | alloc t => exact talloc ho hK h
 | box t x => exact tbox ho hK h
 | build t ps => exact tbuild ho hK h
 | buildSlice t n ps => exact tbuildSlice ho hK h
 | load t x => exact tload ho hK h
 | store t x y => exact tstore ho hK h
 | nilCheck x => exact tnilCheck ho hK h
 | binOp op t x y ty => exact tbinOp ho hK h
 | unOp op t x => exact tunOp ho hK h
 | convert s d x => exact tconvert ho hK h
 | makeFunc f fs cs => exact tmakeFunc ho hK h
 | makeSlice t l c => exact tmakeSlice ho hK h
 | slice t x lo hi mx => exact tslice ho hK h
 | fieldAddr s x f => exact tfieldAddr ho hK h
 | field s x f => exact tfield ho hK h
 | indexAddr t x i => exact tindexAddr ho hK h
 | index t x i => exact tindex ho hK h
 | extract x j => exact textract ho hK h
 | call c => exact tcall hC ho hK h
 | _ => simp only [tstep, ho] at h; cases h
end
end Go.TM
end
section
namespace Go.TM
open Go.AM
inductive Pat
 | i (k : IntKind) | b | s | sl (t : GT) | own (t : GT) (d : Bool)
 | ptr (o off : Nat) | ptrI (o off : Nat) | ar (o : Nat) | nilp | u | nil | sc (x : List UInt8)
 | agg (p : Pat) | tup (p : Pat) | fn (f : Nat) (p : Pat) | ro (p : Pat)
 | nop | cons (p q : Pat)
def pl : List Pat → Pat
 | [] => .nop
 | p :: l => .cons p (pl l)
def Pat.cst : Pat → Bool
 | .i _ | .b | .s | .sl _ | .own _ _ | .ptrI _ _ => false
 | .agg p | .tup p | .fn _ p | .ro p => p.cst
 | .cons p q => p.cst && q.cst
 | _ => true
@[reducible] def SelD : Bool → Bool → Type → Type → Type
 | true, true, _, _ => Unit
 | true, false, _, B => B
 | false, true, A, _ => A
 | false, false, A, B => A × B
@[reducible] def Pat.Den : Pat → Type
 | .i _ => Int
 | .b => Bool
 | .s => List UInt8
 | .sl t => List t.Den
 | .own t _ => List t.Den
 | .ptrI _ _ => Nat
 | .agg p | .tup p | .fn _ p | .ro p => p.Den
 | .cons p q => SelD p.cst q.cst p.Den q.Den
 | _ => Unit
def mkD : (x y : Bool) → {A B : Type} → A → B → SelD x y A B
 | true, true, _, _, _, _ => ()
 | true, false, _, _, _, b => b
 | false, true, _, _, a, _ => a
 | false, false, _, _, a, b => (a, b)
def Pat.dflt : (p : Pat) → p.Den
 | .i _ => (0 : Int)
 | .b => false
 | .s => ([] : List UInt8)
 | .sl _ => []
 | .own _ _ => []
 | .ptrI _ _ => (0 : Nat)
 | .agg p | .tup p | .fn _ p | .ro p => p.dflt
 | .cons p q => mkD p.cst q.cst p.dflt q.dflt
 | .ptr _ _ | .ar _ | .nilp | .u | .nil | .nop | .sc _ => ()
def fstD : (x y : Bool) → {A B : Type} → A → SelD x y A B → A
 | true, true, _, _, a, _ => a
 | true, false, _, _, a, _ => a
 | false, true, _, _, _, x => x
 | false, false, _, _, _, x => x.1
def sndD : (x y : Bool) → {A B : Type} → B → SelD x y A B → B
 | true, true, _, _, b, _ => b
 | true, false, _, _, _, x => x
 | false, true, _, _, b, _ => b
 | false, false, _, _, _, x => x.2
def encP : (p : Pat) → p.Den → List V
 | .i k, n => [.i k n]
 | .b, x => [.b x]
 | .s, x => [.s x]
 | .sl t, l => [.sl t l]
 | .own t d, l => [.own t d l]
 | .ptr o off, _ => [.p o 0 off]
 | .ptrI o off, i => [.p o i off]
 | .ar o, _ => [.ar o]
 | .nilp, _ => [.nilp]
 | .u, _ => [.u]
 | .nil, _ => [.nil]
 | .sc x, _ => [.s x]
 | .agg p, x => [.agg (encP p x)]
 | .tup p, x => [.tup (encP p x)]
 | .fn f p, x => [.fn f (encP p x)]
 | .ro p, x => [.ro (encP p x)]
 | .nop, _ => []
 | .cons p q, x => encP p (fstD p.cst q.cst p.dflt x) ++ encP q (sndD p.cst q.cst q.dflt x)
section
variable {R : Type}
def endT (l : List V) (K : Option R) : Option R := match l with | [] => K | _ :: _ => none
def decP (z : Bool) : (p : Pat) → List V → (p.Den → List V → Option R) → Option R
 | .i k, vs, K => match vs with
  | .i k' n :: r => chkO (eqK k k') (K n r)
  | _ => none
 | .b, vs, K => match vs with
  | .b x :: r => K x r
  | _ => none
 | .s, vs, K => match vs with
  | .s x :: r => K x r
  | _ => none
 | .sl t, vs, K => match vs with
  | .sl t' l :: r => (match hs : t.same t' with
   | true => K (castL hs l) r
   | false => none)
  | .nil :: r => chkO z (K [] r)
  | _ => none
 | .own t d, vs, K => match vs with
  | .own t' d' l :: r => (match hs : t.same t' with
   | true => chkO (d == d' || t.flat) (K (castL hs l) r)
   | false => none)
  | .emp t' :: r => chkO (t.same t') (K [] r)
  | .nil :: r => chkO z (K [] r)
  | _ => none
 | .ptr o off, vs, K => match vs with
  | .p o' i off' :: r => (match i with
   | 0 => chkO (o == o' && off == off') (K () r)
   | _ + 1 => none)
  | _ => none
 | .ptrI o off, vs, K => match vs with
  | .p o' i off' :: r => chkO (o == o' && off == off') (K i r)
  | _ => none
 | .ar o, vs, K => match vs with
  | .ar o' :: r => chkO (o == o') (K () r)
  | _ => none
 | .nilp, vs, K => match vs with
  | .nilp :: r => K () r
  | _ => none
 | .nil, vs, K => match vs with
  | .nil :: r => K () r
  | _ => none
 | .u, vs, K => match vs with
  | _ :: r => chkO z (K () r)
  | _ => none
 | .sc x, vs, K => match vs with
  | .s y :: r => chkO (decide (y = x)) (K () r)
  | _ => none
 | .agg p, vs, K => match vs with
  | .agg cs :: r => decP z p cs fun x q => endT q (K x r)
  | _ => none
 | .tup p, vs, K => match vs with
  | .tup cs :: r => decP z p cs fun x q => endT q (K x r)
  | _ => none
 | .fn f p, vs, K => match vs with
  | .fn f' cs :: r => chkO (f == f') (decP false p cs fun x q => endT q (K x r))
  | _ => none
 | .ro p, vs, K => match vs with
  | .ro cs :: r => decP false p cs fun x q => endT q (K x r)
  | _ => none
 | .nop, vs, K => K () vs
 | .cons p q, vs, K => decP z p vs fun x r => decP z q r fun y r' => K (mkD p.cst q.cst x y) r'
theorem wkL_append : ∀ {a b c d : List SV}, wkL a b → wkL c d → wkL (a ++ c) (b ++ d)
 | [], b, c, d, h, h2 => by simp only [wkL] at h; subst h; exact h2
 | x :: a, [], c, d, h, h2 => by simp only [wkL] at h
 | x :: a, y :: b, c, d, h, h2 => by
  simp only [wkL] at h
  simp only [List.cons_append, wkL]
  exact ⟨h.1, wkL_append h.2 h2⟩
theorem endT_some {l : List V} {K : Option R} {r : R} (h : endT l K = some r) : l = [] ∧ K = some r := by
 cases l
 ·exact ⟨rfl, h⟩
 ·cases h
theorem cst_den : ∀ (p : Pat) (x : p.Den), p.cst = true → encP p x = encP p p.dflt
 | .i _, _, h | .b, _, h | .s, _, h | .sl _, _, h | .own _ _, _, h | .ptrI _ _, _, h => by cases h
 | .ptr _ _, _, _ | .ar _, _, _ | .nilp, _, _ | .u, _, _ | .nil, _, _ | .nop, _, _ | .sc _, _, _ => rfl
 | .agg p, x, h => by simp only [encP, Pat.dflt, cst_den p x h]
 | .tup p, x, h => by simp only [encP, Pat.dflt, cst_den p x h]
 | .fn f p, x, h => by simp only [encP, Pat.dflt, cst_den p x h]
 | .ro p, x, h => by simp only [encP, Pat.dflt, cst_den p x h]
 | .cons p q, x, h => by
  simp only [Pat.cst, Bool.and_eq_true] at h
  simp only [encP]
  rw [cst_den p (fstD p.cst q.cst p.dflt x) h.1, cst_den q (sndD p.cst q.cst q.dflt x) h.2, cst_den p (fstD p.cst q.cst p.dflt (Pat.cons p q).dflt) h.1, cst_den q (sndD p.cst q.cst q.dflt (Pat.cons p q).dflt) h.2]
theorem enc_mk (p q : Pat) (x : p.Den) (y : q.Den) : encP (.cons p q) (mkD p.cst q.cst x y) = encP p x ++ encP q y := by
 simp only [encP]
 have h1 : encP p (fstD p.cst q.cst p.dflt (mkD p.cst q.cst x y)) = encP p x := by
  cases hp : p.cst
  ·have : ∀ b : Bool, fstD false b p.dflt (mkD false b x y) = x := fun b => by cases b <;> rfl
   rw [this]
  ·rw [cst_den p _ hp, cst_den p x hp]
 have h2 : encP q (sndD p.cst q.cst q.dflt (mkD p.cst q.cst x y)) = encP q y := by
  cases hq : q.cst
  ·have : ∀ b : Bool, sndD b false q.dflt (mkD b false x y) = y := fun b => by cases b <;> rfl
   rw [this]
  ·rw [cst_den q _ hq, cst_den q y hq]
 rw [h1, h2]
theorem decP_wk {r : R} : ∀ (p : Pat) (z : Bool) (vs : List V) (K : p.Den → List V → Option R), decP z p vs K = some r →
  ∃ x cs rest, K x rest = some r ∧ vs = cs ++ rest ∧ wkL (eL cs) (eL (encP p x)) ∧ (z = false → eL cs = eL (encP p x))
 | .i k, z, vs, K, h => by
  unfold decP at h; split at h
  ·obtain ⟨h1, h2⟩ := chkO_some h
   simp only [eqK, decide_eq_true_eq] at h1; subst h1
   exact ⟨_, [_], _, h2, rfl, wkL_refl _, fun _ => rfl⟩
  ·cases h
 | .b, z, vs, K, h => by
  unfold decP at h; split at h
  ·exact ⟨_, [_], _, h, rfl, wkL_refl _, fun _ => rfl⟩
  ·cases h
 | .s, z, vs, K, h => by
  unfold decP at h; split at h
  ·exact ⟨_, [_], _, h, rfl, wkL_refl _, fun _ => rfl⟩
  ·cases h
 | .sl t, z, vs, K, h => by
  unfold decP at h; split at h
  ·rename_i t' l q
   split at h
   ·rename_i hs
    have he : e (.sl t' l) = e (.sl t (castL hs l)) := by simp only [e, castL_map, same_sz hs]
    exact ⟨_, [_], _, h, rfl, by simp only [encP, eL, he]; exact wkL_refl _, fun _ => by simp only [encP, eL, he]⟩
   ·cases h
  ·obtain ⟨h1, h2⟩ := chkO_some h
   exact ⟨_, [_], _, h2, rfl, ⟨rfl, rfl⟩, fun hz => by rw [hz] at h1; cases h1⟩
  ·cases h
 | .own t d, z, vs, K, h => by
  unfold decP at h; split at h
  ·rename_i t' d' l q
   split at h
   ·rename_i hs
    obtain ⟨h1, h2⟩ := chkO_some h
    have hd : d = d' ∨ t.flat = true := by simpa using h1
    have he : e (.own t' d' l) = e (.own t d (castL hs l)) := by simp only [e, castL_map' hs l hd, same_sz hs]
    exact ⟨_, [_], _, h2, rfl, by simp only [encP, eL, he]; exact wkL_refl _, fun _ => by simp only [encP, eL, he]⟩
   ·cases h
  ·rename_i t' q
   obtain ⟨h1, h2⟩ := chkO_some h
   have he : e (.emp t') = e (.own t d []) := by simp only [e, List.map_nil, same_sz h1]
   exact ⟨_, [_], _, h2, rfl, by simp only [encP, eL, he]; exact wkL_refl _, fun _ => by simp only [encP, eL, he]⟩
  ·obtain ⟨h1, h2⟩ := chkO_some h
   exact ⟨_, [_], _, h2, rfl, ⟨rfl, rfl⟩, fun hz => by rw [hz] at h1; cases h1⟩
  ·cases h
 | .ptr o off, z, vs, K, h => by
  unfold decP at h; split at h
  ·split at h
   ·obtain ⟨h1, h2⟩ := chkO_some h
    simp only [Bool.and_eq_true, beq_iff_eq] at h1
    obtain ⟨rfl, rfl⟩ := h1
    exact ⟨_, [_], _, h2, rfl, wkL_refl _, fun _ => rfl⟩
   ·cases h
  ·cases h
 | .ptrI o off, z, vs, K, h => by
  unfold decP at h; split at h
  ·obtain ⟨h1, h2⟩ := chkO_some h
   simp only [Bool.and_eq_true, beq_iff_eq] at h1
   obtain ⟨rfl, rfl⟩ := h1
   exact ⟨_, [_], _, h2, rfl, wkL_refl _, fun _ => rfl⟩
  ·cases h
 | .ar o, z, vs, K, h => by
  unfold decP at h; split at h
  ·obtain ⟨h1, h2⟩ := chkO_some h
   have h1 := eq_of_beq h1; subst h1
   exact ⟨_, [_], _, h2, rfl, wkL_refl _, fun _ => rfl⟩
  ·cases h
 | .nilp, z, vs, K, h => by
  unfold decP at h; split at h
  ·exact ⟨_, [_], _, h, rfl, wkL_refl _, fun _ => rfl⟩
  ·cases h
 | .nil, z, vs, K, h => by
  unfold decP at h; split at h
  ·exact ⟨_, [_], _, h, rfl, wkL_refl _, fun _ => rfl⟩
  ·cases h
 | .u, z, vs, K, h => by
  unfold decP at h; split at h
  ·obtain ⟨h1, h2⟩ := chkO_some h
   exact ⟨_, [_], _, h2, rfl, ⟨wk_u' _, rfl⟩, fun hz => by rw [hz] at h1; cases h1⟩
  ·cases h
 | .sc y, z, vs, K, h => by
  unfold decP at h; split at h
  ·obtain ⟨h1, h2⟩ := chkO_some h
   have h1 := of_decide_eq_true h1
   subst h1
   exact ⟨_, [_], _, h2, rfl, wkL_refl _, fun _ => rfl⟩
  ·cases h
 | .agg p, z, vs, K, h => by
  unfold decP at h; split at h
  ·rename_i cs q
   obtain ⟨x, c1, rest, h1, h2, h3, h4⟩ := decP_wk p z cs _ h
   obtain ⟨rfl, h5⟩ := endT_some h1
   rw [List.append_nil] at h2
   subst h2
   exact ⟨x, [_], _, h5, rfl, ⟨h3, rfl⟩, fun hz => by simp only [encP, eL, e, h4 hz]⟩
  ·cases h
 | .tup p, z, vs, K, h => by
  unfold decP at h; split at h
  ·rename_i cs q
   obtain ⟨x, c1, rest, h1, h2, h3, h4⟩ := decP_wk p z cs _ h
   obtain ⟨rfl, h5⟩ := endT_some h1
   rw [List.append_nil] at h2
   subst h2
   exact ⟨x, [_], _, h5, rfl, ⟨h3, rfl⟩, fun hz => by simp only [encP, eL, e, h4 hz]⟩
  ·cases h
 | .fn f p, z, vs, K, h => by
  unfold decP at h; split at h
  ·rename_i f' cs q
   obtain ⟨h0, h9⟩ := chkO_some h
   have h0 := eq_of_beq h0
   subst h0
   obtain ⟨x, c1, rest, h1, h2, h3, h4⟩ := decP_wk p false cs _ h9
   obtain ⟨rfl, h5⟩ := endT_some h1
   rw [List.append_nil] at h2
   subst h2
   have he : eL [V.fn f cs] = eL (encP (.fn f p) x) := by simp only [encP, eL, e, h4 rfl]
   exact ⟨x, [_], _, h5, rfl, by rw [he]; exact wkL_refl _, fun _ => he⟩
  ·cases h
 | .ro p, z, vs, K, h => by
  unfold decP at h; split at h
  ·rename_i cs q
   obtain ⟨x, c1, rest, h1, h2, h3, h4⟩ := decP_wk p false cs _ h
   obtain ⟨rfl, h5⟩ := endT_some h1
   rw [List.append_nil] at h2
   subst h2
   have he : eL [V.ro cs] = eL (encP (.ro p) x) := by simp only [encP, eL, e, h4 rfl]
   exact ⟨x, [_], _, h5, rfl, by rw [he]; exact wkL_refl _, fun _ => he⟩
  ·cases h
 | .nop, z, vs, K, h => ⟨(), [], vs, h, rfl, rfl, fun _ => rfl⟩
 | .cons p q, z, vs, K, h => by
  unfold decP at h
  obtain ⟨x, c1, r1, h1, h2, h3, h4⟩ := decP_wk p z vs _ h
  obtain ⟨y, c2, r2, h5, h6, h7, h8⟩ := decP_wk q z r1 _ h1
  refine ⟨_, c1 ++ c2, r2, h5, by rw [h2, h6, List.append_assoc], ?_, fun hz => ?_⟩
  ·rw [enc_mk, eL_append, eL_append]; exact wkL_append h3 h7
  ·rw [enc_mk, eL_append, eL_append, h4 hz, h8 hz]
end
end Go.TM
end
section
namespace Go.TM
open Go.AM
inductive OPat
 | box (n : Nat) (p : Pat)
 | arr (n : Nat) (t : GT) (d : Bool)
structure SPat where
 al : List (Nat × Pat)
 ob : List OPat
def OPat.name : OPat → Nat
 | .box n _ => n
 | .arr n _ _ => n
def OPat.pat : OPat → Pat
 | .box _ p => .agg p
 | .arr _ t d => .own t d
def chainA : List (Nat × Pat) → Pat → Pat
 | [], q => q
 | p :: l, q => .cons p.2 (chainA l q)
def chainO : List OPat → Pat
 | [] => .nop
 | o :: l => .cons o.pat (chainO l)
def SPat.pat (s : SPat) : Pat := chainA s.al (chainO s.ob)
abbrev SPat.Den (s : SPat) : Type := s.pat.Den
def mkA : List (Nat × Pat) → List V → List (Nat × V)
 | [], _ => []
 | p :: l, vs => match vs with
  | v :: vs => (p.1, v) :: mkA l vs
  | [] => []
def toO (o : OPat) (v : V) : TO := match o with
 | .box n _ => (match v with | .agg cs => .box n cs | _ => .box n [])
 | .arr n t d => (match v with | .own t d l => .arr n t d l | _ => .arr n t d [])
def mkO : List OPat → List V → List TO
 | [], _ => []
 | o :: l, vs => match vs with
  | v :: vs => toO o v :: mkO l vs
  | [] => []
def restA : List (Nat × Pat) → List V → List V
 | [], vs => vs
 | _ :: l, vs => match vs with
  | _ :: vs => restA l vs
  | [] => []
def encS (n : Nat) (s : SPat) (x : s.Den) : TS := ⟨n, mkA s.al (encP s.pat x), mkO s.ob (restA s.al (encP s.pat x))⟩
def ofO : Option TO → V
 | some (.box _ cs) => .agg cs
 | some (.arr _ t d l) => .own t d l
 | none => .u
def valsA (s : TS) : List (Nat × Pat) → List V → List V
 | [], r => r
 | p :: l, r => lookT s p.1 :: valsA s l r
def valsO (s : TS) : List OPat → List V
 | [] => []
 | o :: l => ofO (getT s.ob o.name) :: valsO s l
def namesP : List OPat → List Nat
 | [] => []
 | o :: l => o.name :: namesP l
section
variable {R : Type}
def decS (p : SPat) (s : TS) (K : p.Den → Option R) : Option R :=
 chkO (noDup (namesP p.ob)) (decP true p.pat (valsA s p.al (valsO s p.ob)) fun x q => endT q (K x))
end
section
variable {R : Type} {r : R} {s : TS}
theorem wkL_cons {x y : SV} {a b : List SV} (h : wkL (x :: a) (y :: b)) : wk x y ∧ wkL a b := h
theorem enc_single : ∀ p : Pat, p.cst = p.cst → ∀ o : OPat, ∀ x : o.pat.Den, ∃ v, encP o.pat x = [v] := by
 intro _ _ o x
 cases o <;> exact ⟨_, rfl⟩
theorem wk_of_u {y : SV} (h : wk .u y) : y = .u := by cases y <;> simp_all [wk]
theorem lookT_wk {t : Nat} {y : SV} (h : wk (e (lookT s t)) y) : wk (AM.look (eA s.al) t) y := by
 unfold lookT at h
 split at h
 ·rw [← e_lookV]; exact h
 ·have := wk_of_u h
  subst this
  exact wk_u _
theorem ofO_box {n m : Nat} {p : Pat} {x : p.Den} {v : V} (h : wk (e (ofO (getT s.ob n))) (.agg (eL (encP p x)))) :
  ∃ m cs, getT s.ob n = some (.box m cs) ∧ wkL (eL cs) (eL (encP p x)) := by
 cases hg : getT s.ob n with
 | none => rw [hg] at h; simp [ofO, e, wk] at h
 | some o =>
  rw [hg] at h
  cases o with
  | box m cs => exact ⟨m, cs, rfl, h⟩
  | arr m t d l => simp [ofO, e, wk] at h
theorem getT_name : ∀ (l : List TO) (o : Nat) (x : TO), getT l o = some x → x.name = o
 | [], _, _, h => by cases h
 | y :: l, o, x, h => by
  simp only [getT] at h
  cases hy : y.name == o with
  | true => rw [hy, cond_true] at h; simp only [Option.some.injEq] at h; subst h; exact eq_of_beq hy
  | false => rw [hy, cond_false] at h; exact getT_name l o x h
theorem wkL_length : ∀ {a b : List SV}, wkL a b → a.length = b.length
 | [], b, h => by simp only [wkL] at h; subst h; rfl
 | _ :: _, [], h => by simp only [wkL] at h
 | x :: a, y :: b, h => by simp only [wkL] at h; simp [wkL_length h.2]
theorem valsO_wk : ∀ (l : List OPat) (x : (chainO l).Den) (cs : List V), cs = valsO s l → wkL (eL cs) (eL (encP (chainO l) x)) →
  ∃ ob', selOb (namesP l) (eOs s.ob) = some ob' ∧ wkObs ob' (eOs (mkO l (encP (chainO l) x)))
 | [], x, cs, hc, h => ⟨[], rfl, rfl⟩
 | o :: l, x, cs, hc, h => by
  subst hc
  simp only [valsO, eL] at h
  simp only [chainO, encP] at h ⊢
  generalize hx : fstD o.pat.cst (chainO l).cst o.pat.dflt x = x1 at h ⊢
  generalize hy : sndD o.pat.cst (chainO l).cst (chainO l).dflt x = y1 at h ⊢
  cases o with
  | box n p =>
   have h' : wkL (e (ofO (getT s.ob n)) :: eL (valsO s l)) (SV.agg (eL (encP p x1)) :: eL (encP (chainO l) y1)) := h
   obtain ⟨h1, h2⟩ := wkL_cons h'
   obtain ⟨m, cs, hg, h3⟩ := ofO_box (v := .u) (m := 0) h1
   obtain ⟨ob', h4, h5⟩ := valsO_wk l y1 _ rfl h2
   have hn := getT_name _ _ _ hg
   simp only [TO.name] at hn
   subst hn
   refine ⟨⟨m, cs.length, [eL cs], true⟩ :: ob', ?_, ?_⟩
   ·simp only [namesP, OPat.name, selOb]
    rw [getOb_e, hg, h4]
    rfl
   ·have hl := wkL_length h3
    simp only [eL_length] at hl
    exact ⟨rfl, hl, rfl, ⟨h3, rfl⟩, h5⟩
  | arr n t d =>
   have h' : wkL (e (ofO (getT s.ob n)) :: eL (valsO s l)) (SV.own t.sz ((x1 : List t.Den).map (encC d t)) :: eL (encP (chainO l) y1)) := h
   obtain ⟨h1, h2⟩ := wkL_cons h'
   obtain ⟨ob', h4, h5⟩ := valsO_wk l y1 _ rfl h2
   cases hg : getT s.ob n with
   | none => rw [hg] at h1; simp [ofO, e, wk] at h1
   | some o =>
    rw [hg] at h1
    have hn := getT_name _ _ _ hg
    cases o with
    | box m cs => simp [ofO, e, wk] at h1
    | arr m t' d' l' =>
     simp only [TO.name] at hn
     subst hn
     simp only [ofO, e, wk, SV.own.injEq] at h1
     refine ⟨⟨m, t'.sz, l'.map (encC d' t'), false⟩ :: ob', ?_, ?_⟩
     ·simp only [namesP, OPat.name, selOb]
      rw [getOb_e, hg, h4]
      rfl
     ·exact ⟨rfl, h1.1, rfl, by simp only [h1.2]; exact wkRows_refl _, h5⟩
theorem enc_one : ∀ (p : Pat), (∀ q q', p ≠ .cons q q') → p ≠ .nop → ∀ x : p.Den, ∃ v, encP p x = [v] := by
 intro p h1 h2 x
 cases p <;> first | exact ⟨_, rfl⟩ | exact absurd rfl h2 | exact absurd rfl (h1 _ _)
def okA : List (Nat × Pat) → Bool
 | [] => true
 | p :: l => (match p.2 with | .cons _ _ | .nop => false | _ => true) && okA l
theorem valsA_wk {rest : List V} {q : Pat} : ∀ (l : List (Nat × Pat)) (x : (chainA l q).Den), okA l = true → wkL (eL (valsA s l rest)) (eL (encP (chainA l q) x)) →
  wkA (eA s.al) (eA (mkA l (encP (chainA l q) x))) ∧ ∃ y : q.Den, restA l (encP (chainA l q) x) = encP q y ∧ wkL (eL rest) (eL (encP q y))
 | [], x, _, h => ⟨trivial, x, rfl, h⟩
 | p :: l, x, ho, h => by
  simp only [okA, Bool.and_eq_true] at ho
  simp only [chainA, encP] at h ⊢
  generalize hx : fstD p.2.cst (chainA l q).cst p.2.dflt x = x1 at h ⊢
  generalize hy : sndD p.2.cst (chainA l q).cst (chainA l q).dflt x = y1 at h ⊢
  obtain ⟨v, hv⟩ := enc_one p.2 (fun q q' hq => by rw [hq] at ho; cases ho.1) (fun hq => by rw [hq] at ho; cases ho.1) x1
  rw [hv] at h ⊢
  simp only [valsA, List.cons_append, List.nil_append, eL] at h ⊢
  obtain ⟨h1, h2⟩ := wkL_cons h
  obtain ⟨h3, y, h4, h5⟩ := valsA_wk l y1 ho.2 h2
  exact ⟨⟨lookT_wk h1, h3⟩, y, h4, h5⟩
theorem decS_sound {p : SPat} {K : p.Den → Option R} (ho : okA p.al = true) (h : decS p s K = some r) : ∃ x, K x = some r ∧ ∀ K' : St → Prop, K' (eS (encS s.n p x)) → gK K' (eS s) := by
 obtain ⟨h0, h1⟩ := chkO_some h
 obtain ⟨x, cs, rest, h2, h3, h4, _⟩ := decP_wk p.pat true _ _ h1
 obtain ⟨rfl, h5⟩ := endT_some h2
 rw [List.append_nil] at h3
 subst h3
 obtain ⟨h6, y, h7, h8⟩ := valsA_wk p.al x ho h4
 obtain ⟨ob', h9, h10⟩ := valsO_wk p.ob y _ rfl h8
 refine ⟨x, h5, fun K' hk => ?_⟩
 have hsel : selOb (namesP p.ob) (eS s).ob = some ob' := h9
 refine gK_trans (gK_sel (K := fun st => gK K' st) (namesP p.ob) (noDup_spec _ h0) hsel ?_)
 refine gK_le _ ?_ ?_ hk
 ·exact wkL_den h6
 ·show wkObs ob' (eOs (mkO p.ob (restA p.al (encP (chainA p.al (chainO p.ob)) x))))
  rw [h7]
  exact h10
end
end Go.TM
end
section
namespace Go.AX
open Go Go.AM
def stepX (T : Nat → TI) (C : CallP) (o : Oper) (K : St → Prop) (st : St) : Prop := gK (fun s => stepK T C o s (gK K)) st
section
variable {P : Program} {T : Nat → TI} {C : CallP} {w0 w w' : World} {L : Lv} {st st1 : St} {a : Act} {G G' : Gh} {o : Oper} {K : St → Prop} {Q : Exit → Act → World → Prop} {ops : Array Oper}
theorem sound_opX (hT : LayOk P T) (hC : CSound P C) (h : SR w0 L st a.tmps w G) (hk : stepX T C o K st) : o.wp P a w (Nx w0 L a.defers K) Q := by
 obtain ⟨st', G', h1, h2⟩ := hk w0 w L a.tmps G h
 exact Oper.wp_mono (fun _ _ hn => Nx.gK hn) (sound_op hT hC h2 h1)
theorem sound_floatX (hT : LayOk P T) (hf : floatOp T o.op = true) (h : SR w0 L st a.tmps w G) (hk : stepX T C o K st) : ∃ v, (execOp a.eval o).run P w = .ok (.value v) w ∧ Nx w0 L a.defers K (a.put o.dst v) w := by
 obtain ⟨st', G', h1, h2⟩ := hk w0 w L a.tmps G h
 obtain ⟨v, h3, h4⟩ := AM.sound_float hT hf h2 h1
 exact ⟨v, h3, Nx.gK h4⟩
theorem reX_same (h : reK T C o st) : stepX T C o (fun st' => st' = st) st := by
 refine gK_id ?_
 have h1 := reK_same h
 obtain ⟨h2, _⟩ := chk_and h
 exact stepK_frame h2 h1 fun v hv => gK_id hv
def opsX (T : Nat → TI) (C : CallP) (ops : Array Oper) : List Oper → (St → Prop) → St → Prop
 | [], K, st => K st
 | o :: rest, K, st => guardK ops o st (stepX T C o (opsX T C ops rest K)) (kSk o.dst (opsX T C ops rest K))
theorem sound_opsX (hT : LayOk P T) (hC : CSound P C) : ∀ (l : List Oper) (K : St → Prop) (st : St) (a : Act) (w : World) (G : Gh), SR w0 L st a.tmps w G → opsX T C ops l K st →
  (∀ a' w', Nx w0 L a.defers K a' w' → Q .normal a' w') → wpList P ops Q l a w
 | [], K, st, a, w, G, h, hk, hQ => hQ a w ⟨st, G, hk, h, rfl⟩
 | o :: l, K, st, a, w, G, h, hk, hQ => by
  have hyes : ∀ st, SR w0 L st a.tmps w G → Region.wanted o (yielded ops a.tmps) = true → stepX T C o (opsX T C ops l K) st → wpList P ops Q (o :: l) a w := by
   intro st h hw hk
   refine wpList_step fun K' hK' => ?_
   rw [if_pos hw]
   refine Oper.wp_mono ?_ (sound_opX hT hC h hk)
   rintro a1 w1 ⟨st1, G1, hk1, h1, hd1⟩
   exact hK' _ _ (sound_opsX hT hC l K st1 a1 w1 G1 h1 hk1 (by rw [hd1]; exact hQ))
  have hno : ∀ st, SR w0 L st a.tmps w G → Region.wanted o (yielded ops a.tmps) = false → opsX T C ops l K (setD st o.dst .sk) → wpList P ops Q (o :: l) a w := by
   intro st h hw hk
   refine wpList_step fun K' hK' => ?_
   rw [if_neg (by rw [hw]; simp)]
   obtain ⟨fE, fO, hc⟩ := h
   obtain ⟨fE1, h1⟩ := hc.putD (fX' := zf) (sv := .sk) (v := undef) (fV := zf) (by simp [R]) (fun j => by simp [zf]) o.dst a rfl
   exact hK' _ _ (sound_opsX hT hC l K _ _ w G ⟨fE1, fO, h1⟩ hk (by rw [AM.Act.put_defers]; exact hQ))
  simp only [opsX, guardK] at hk
  cases hg : o.guard with
  | none =>
   rw [hg] at hk
   exact hyes st h (by simp [Region.wanted, hg]) hk
  | some q =>
   obtain ⟨j, want⟩ := q
   rw [hg] at hk
   simp only at hk
   cases hd : (ops[j]?).bind (·.dst) with
   | none => rw [hd] at hk; exact hk.elim
   | some d =>
    rw [hd] at hk
    simp only at hk
    have h0 := h
    obtain ⟨fE, fO, hc⟩ := h0
    split at hk
    ·rename_i hl
     exact hno st h (by simp [Region.wanted, hg, yielded_sk hd hc.E hc.size hl]) hk
    ·rename_i x hl
     have hsame : setE st d (.b x) = st := by simp only [setE]; rw [← hl, upd_same]
     have hy := yielded_of hd hc.E hc.size hl
     by_cases hx : x = want
     ·have := cnd.yes hk (by simp [hx])
      rw [← hx, hsame] at this
      exact hyes st h (by simp [Region.wanted, hg, hy, hx]) this
     ·have hx' : x = !want := by cases x <;> cases want <;> simp_all
      have := cnd.no hk (by simpa using hx)
      rw [← hx', hsame] at this
      exact hno st h (by simp [Region.wanted, hg, hy, hx]) this
    ·exact hk.elim
end
def gstep (T : Nat → TI) (C : CallP) (ops : Array Oper) (o : Oper) (K : St → Prop) (st : St) : Prop := guardK ops o st (stepX T C o K) (kSk o.dst K)
def flK (T : Nat → TI) (C : CallP) (ops : Array Oper) : List Nat → (St → Prop) → St → Prop
 | [], K, st => K st
 | i :: l, K, st => match ops[i]? with
  | some o => gstep T C ops o (flK T C ops l K) st
  | none => False
def rcK (T : Nat → TI) (C : CallP) (ops : Array Oper) : List Nat → St → Prop
 | [], _ => True
 | i :: l, st => (match ops[i]? with
  | some o => guardK ops o st (reKF T C o) (skOk o.dst)
  | none => False) ∧ rcK T C ops l st
def rfK (T : Nat → TI) (C : CallP) (ops : Array Oper) (rc fs : List Nat) (K : St → Prop) (st1 : St) : Prop := rcK T C ops rc st1 ∧ flK T C ops fs K st1
def planK (T : Nat → TI) (C : CallP) (ops : Array Oper) (K : St → Prop) : Plan → St → Prop
 | .fin, st => K st
 | .br e _ rc fs sub alt, st => (match ops[e]? with
  | some o => gstep T C ops o (rfK T C ops rc fs (planK T C ops K sub)) st
  | none => False) ∧ (match alt with | .fin => True | alt => planK T C ops K alt st)
section
variable {P : Program} {T : Nat → TI} {C : CallP} {w0 w w' : World} {L : Lv} {st st1 : St} {a b : Act} {G G' : Gh} {ops : Array Oper} {K : St → Prop} {Q : Exit → Act → World → Prop}
theorem dst_eq {o : Oper} {i : Nat} (ho : ops[i]? = some o) : dstI ops i = o.dst := by simp [dstI, ho]
theorem exec_congr {o : Oper} {i : Nat} (ho : ops[i]? = some o) (hs : Region.noSelect ops = true) (h : ∀ t, usesI ops i (some t) = true → a.tmps[t]? = b.tmps[t]?) : execOp a.eval o = execOp b.eval o :=
 execOp_congr o (fun cs q => Region.noSelect_spec hs i o cs q ho) fun x hx => by
  cases x with
  | tmp t =>
   have := h t (by simp only [usesI, ho, Bool.or_eq_true]; exact .inl (List.any_eq_true.2 ⟨.tmp t, by simpa using hx, by simp⟩))
   simp only [Act.eval, Array.getD_eq_getD_getElem?, this]
  | _ => rfl
theorem put_get {d : Option Tmp} {v : Value} {t : Nat} (h : d ≠ some t) : (a.put d v).tmps[t]? = a.tmps[t]? := by
 cases d with
 | none => rfl
 | some d => simp only [Act.put]; exact Array.getElem?_setIfInBounds_ne (fun e => h (by rw [e]))
theorem put_size {d : Option Tmp} {v : Value} : (a.put d v).tmps.size = a.tmps.size := by cases d <;> simp [Act.put]
theorem put_get_same {d : Option Tmp} {v : Value} (h : a.tmps.size = b.tmps.size) {t : Nat} (hd : d = some t) : (a.put d v).tmps[t]? = (b.put d v).tmps[t]? := by
 subst hd
 simp only [Act.put, Array.getElem?_setIfInBounds, h]
 by_cases ht : t < b.tmps.size
 ·simp [ht]
 ·have h1 : a.tmps[t]? = none := Array.getElem?_eq_none (by omega)
  have h2 : b.tmps[t]? = none := Array.getElem?_eq_none (by omega)
  simp [ht]
theorem wp_pair {o : Oper} {N : Act → World → Prop} (he : execOp a.eval o = execOp b.eval o) (hd : a.defers = b.defers) (h : o.wp P b w N (fun _ _ _ => False)) (hN : ∀ b' w', N b' w' → b'.defers = b.defers) :
  o.wp P a w (fun a' w' => ∃ v, a' = a.put o.dst v ∧ N (b.put o.dst v) w') Q := by
 unfold Oper.wp at *
 rw [he]
 generalize (execOp b.eval o).run P w = r at *
 cases r with
 | ok n w' =>
  cases n <;> simp only [Oper.upon] at h ⊢
  case value v => exact ⟨v, rfl, h⟩
  case skip => exact ⟨_, rfl, h⟩
  case defer d =>
   exfalso
   have := hN _ _ h
   rw [AM.Act.put_defers] at this
   have := congrArg List.length this
   simp at this
  case enter f args =>
   refine Calls.mono h fun e w'' he => ?_
   cases e with
   | returned u => exact ⟨u, rfl, he⟩
   | panicked c => exact he.elim
   | outgrown => obtain ⟨_, _, he⟩ := he; exact he.elim
  case row row args => exact Rows.mono h fun u w'' he => ⟨u, rfl, he⟩
 | halt x w' =>
  cases x <;> simp only [Oper.upon] at h ⊢
theorem wanted_congr {o : Oper} {i : Nat} (ho : ops[i]? = some o) (h : ∀ t, usesI ops i (some t) = true → a.tmps[t]? = b.tmps[t]?) : Region.wanted o (yielded ops a.tmps) = Region.wanted o (yielded ops b.tmps) := by
 unfold Region.wanted
 cases hg : o.guard with
 | none => rfl
 | some q =>
  obtain ⟨j, w⟩ := q
  simp only
  have : yielded ops a.tmps j = yielded ops b.tmps j := by
   unfold yielded
   cases hd : (ops[j]?).bind (·.dst) with
   | none => rfl
   | some t =>
    simp only [Option.bind_some]
    rw [h t (by simp only [usesI, ho, hg, Bool.or_eq_true]; right; simp [dstI, hd])]
  rw [this]
theorem guard_split {o : Oper} {yes no : St → Prop} (h : SR w0 L st b.tmps w G) (hk : guardK ops o st yes no) :
  (Region.wanted o (yielded ops b.tmps) = true ∧ yes st) ∨ (Region.wanted o (yielded ops b.tmps) = false ∧ no st) := by
 obtain ⟨fE, fO, hc⟩ := h
 simp only [guardK] at hk
 cases hg : o.guard with
 | none => rw [hg] at hk; exact .inl ⟨by simp [Region.wanted, hg], hk⟩
 | some q =>
  obtain ⟨j, want⟩ := q
  rw [hg] at hk
  simp only at hk
  cases hd : (ops[j]?).bind (·.dst) with
  | none => rw [hd] at hk; exact hk.elim
  | some d =>
   rw [hd] at hk
   simp only at hk
   split at hk
   ·rename_i hl
    exact .inr ⟨by simp [Region.wanted, hg, yielded_sk hd hc.E hc.size hl], hk⟩
   ·rename_i x hl
    have hsame : setE st d (.b x) = st := by simp only [setE]; rw [← hl, upd_same]
    have hy := yielded_of hd hc.E hc.size hl
    by_cases hx : x = want
    ·have := cnd.yes hk (by simp [hx])
     rw [← hx, hsame] at this
     exact .inl ⟨by simp [Region.wanted, hg, hy, hx], this⟩
    ·have hx' : x = !want := by cases x <;> cases want <;> simp_all
     have := cnd.no hk (by simpa using hx)
     rw [← hx', hsame] at this
     exact .inr ⟨by simp [Region.wanted, hg, hy, hx], this⟩
   ·exact hk.elim
def Pend (P : Program) (ops : Array Oper) (b : Act) (w : World) (i : Nat) : Prop := ∃ o v, ops[i]? = some o ∧ (Region.wanted o (yielded ops b.tmps) = true ∧ (execOp b.eval o).run P w = .ok (.value v) w ∨ Region.wanted o (yielded ops b.tmps) = false ∧ v = undef) ∧
 ∀ t, o.dst = some t → t < b.tmps.size → b.tmps[t]? = some v
structure Sim (P : Program) (T : Nat → TI) (w0 : World) (L : Lv) (ds : List Deferred) (ops : Array Oper) (A : Array Bool) (done : List Nat) (st : St) (a b : Act) (w : World) : Prop where
 sr : ∃ G, SR w0 L st b.tmps w G
 db : b.defers = ds
 da : a.defers = ds
 size : a.tmps.size = b.tmps.size
 same : ∀ t, (∀ i ∈ done, flI T ops i = true → A.getD i false = false → dstI ops i ≠ some t) → a.tmps[t]? = b.tmps[t]?
 pend : ∀ i ∈ done, flI T ops i = true → A.getD i false = false → Pend P ops b w i
 asize : A.size = ops.size
 sub : ∀ i, A.getD i false = true → i ∈ done
 eff : ∀ i ∈ done, flI T ops i = false → A.getD i false = true
 clo : ∀ i, A.getD i false = true → ∀ j ∈ preds ops i, A.getD j false = true
theorem uses_clash {i j : Nat} (h : clash ops i j = false) : usesI ops j (dstI ops i) = false ∧ (∀ t, dstI ops i = some t → dstI ops j ≠ some t) := by
 simp only [clash, Bool.or_eq_false_iff, Bool.and_eq_false_iff] at h
 refine ⟨h.1, fun t ht hj => ?_⟩
 rcases h.2 with h2 | h2
 ·rw [ht] at h2; simp at h2
 ·rw [ht, hj] at h2; simp at h2
theorem Pend.put {i : Nat} {d : Option Tmp} {v : Value} (hs : Region.noSelect ops = true) (h : Pend P ops b w i) (hu : usesI ops i d = false) (hd : ∀ t, d = some t → dstI ops i ≠ some t) : Pend P ops (b.put d v) w i := by
 obtain ⟨o, u, ho, hr, hv⟩ := h
 have hcg : ∀ t, usesI ops i (some t) = true → (b.put d v).tmps[t]? = b.tmps[t]? := fun t ht => put_get (fun e => by rw [e, ht] at hu; cases hu)
 refine ⟨o, u, ho, ?_, fun t ht hlt => ?_⟩
 ·rw [wanted_congr (a := b.put d v) (b := b) ho hcg, exec_congr (a := b.put d v) (b := b) ho hs hcg]
  exact hr
 ·rw [put_get (fun e => hd t e (by rw [dst_eq ho]; exact ht))]
  exact hv t ht (by rw [put_size] at hlt; exact hlt)
theorem float_now (hT : LayOk P T) (hs : Region.noSelect ops = true) {i : Nat} {K' : St → Prop} {o : Oper} (ho : ops[i]? = some o) (hf : floatOp T o.op = true) (h : SR w0 L st b.tmps w G) (hk : gstep T C ops o K' st) (hself : usesI ops i (dstI ops i) = false) :
  ∃ v st' G', K' st' ∧ SR w0 L st' (b.put o.dst v).tmps w G' ∧ Pend P ops (b.put o.dst v) w i := by
 have hcg : ∀ (v : Value) t, usesI ops i (some t) = true → (b.put o.dst v).tmps[t]? = b.tmps[t]? := fun v t ht => put_get (fun e => by rw [dst_eq ho, e, ht] at hself; cases hself)
 rcases guard_split h hk with ⟨hw, hk⟩ | ⟨hw, hk⟩
 ·obtain ⟨v, hr, st', G', hk', hsr, _⟩ := sound_floatX hT hf h hk
  refine ⟨v, st', G', hk', hsr, o, v, ho, .inl ⟨?_, ?_⟩, fun t ht hlt => ?_⟩
  ·rw [wanted_congr (a := b.put o.dst v) (b := b) ho (hcg v)]; exact hw
  ·rw [exec_congr (a := b.put o.dst v) (b := b) ho hs (hcg v)]
   exact hr
  ·rw [put_size] at hlt
   rw [ht]; simp [Act.put, hlt]
 ·refine ⟨undef, _, G, hk, h.sk o.dst, o, undef, ho, .inr ⟨?_, rfl⟩, fun t ht hlt => ?_⟩
  ·rw [wanted_congr (a := b.put o.dst undef) (b := b) ho (hcg undef)]; exact hw
  ·rw [put_size] at hlt
   rw [ht]; simp [Act.put, hlt]
theorem floats_now (hT : LayOk P T) (hs : Region.noSelect ops = true) : ∀ (fs : List Nat) (done : List Nat) (st : St) (b : Act) (G : Gh) (K' : St → Prop), fsOk T ops done fs = true → flK T C ops fs K' st → SR w0 L st b.tmps w G →
  ∃ b' st' G', K' st' ∧ SR w0 L st' b'.tmps w G' ∧ b'.defers = b.defers ∧ b'.tmps.size = b.tmps.size ∧ (∀ t, (∀ i ∈ fs, dstI ops i ≠ some t) → b'.tmps[t]? = b.tmps[t]?) ∧ (∀ i ∈ fs, flI T ops i = true ∧ i ∉ done ∧ Pend P ops b' w i) ∧
   ∀ i ∈ done, flI T ops i = true → Pend P ops b w i → Pend P ops b' w i
 | [], done, st, b, G, K', _, hk, h => ⟨b, st, G, hk, h, rfl, rfl, fun _ _ => rfl, fun i hi => by simp at hi, fun _ _ _ h => h⟩
 | i :: fs, done, st, b, G, K', hok, hk, h => by
  simp only [fsOk, Bool.and_eq_true, Bool.not_eq_true', List.all_eq_true, Bool.or_eq_true] at hok
  obtain ⟨⟨⟨⟨hfl, hnd⟩, hself⟩, hcl⟩, hrest⟩ := hok
  simp only [flK] at hk
  cases ho : ops[i]? with
  | none => rw [ho] at hk; exact hk.elim
  | some o =>
   rw [ho] at hk
   have hf : floatOp T o.op = true := by simpa [flI, ho] using hfl
   obtain ⟨v, st1, G1, hk1, h1, hp1⟩ := float_now hT hs ho hf h hk hself
   obtain ⟨b', st', G', hk', h', hd, hsz, hsame, hnew, hold⟩ := floats_now hT hs fs (i :: done) st1 (b.put o.dst v) G1 K' hrest hk1 h1
   refine ⟨b', st', G', hk', h', by rw [hd, AM.Act.put_defers], by rw [hsz, put_size], fun t ht => ?_, fun j hj => ?_, fun j hj hfj hpj => ?_⟩
   ·rw [hsame t (fun j hj => ht j (by simp [hj])), put_get (by rw [← dst_eq ho]; exact ht i (by simp))]
   ·rcases List.mem_cons.1 hj with rfl | hj
    ·exact ⟨hfl, by simpa using hnd, hold j (by simp) hfl hp1⟩
    ·obtain ⟨q1, q2, q3⟩ := hnew j hj
     exact ⟨q1, fun hm => q2 (by simp [hm]), q3⟩
   ·have hc : clash ops i j = false := by
     rcases hcl j hj with h | h
     ·rw [hfj] at h; cases h
     ·exact h
    obtain ⟨hu, hdd⟩ := uses_clash hc
    rw [dst_eq ho] at hu hdd
    exact hold j (by simp [hj]) hfj (hpj.put hs hu hdd)
theorem again (hT : LayOk P T) (hs : Region.noSelect ops = true) {A : Array Bool} : ∀ (rc : List Nat) (b : Act) (G : Gh), rcOk ops rc = true → (∀ j ∈ rc, flI T ops j = true) → rcK T C ops rc st → SR w0 L st b.tmps w G →
  ∃ b' G', SR w0 L st b'.tmps w G' ∧ b'.defers = b.defers ∧ b'.tmps.size = b.tmps.size ∧ (∀ t, (∀ i ∈ rc, A.getD i false = false → dstI ops i ≠ some t) → b'.tmps[t]? = b.tmps[t]?) ∧ (∀ i ∈ rc, A.getD i false = false → Pend P ops b' w i)
 | [], b, G, _, _, _, h => ⟨b, G, h, rfl, rfl, fun _ _ => rfl, fun i hi => by simp at hi⟩
 | j :: rc, b, G, hok, hfl, hk, h => by
  simp only [rcOk, Bool.and_eq_true, Bool.not_eq_true', List.all_eq_true] at hok
  obtain ⟨⟨hself, hcl⟩, hrest⟩ := hok
  simp only [rcK] at hk
  obtain ⟨hkj, hk⟩ := hk
  cases hA : A.getD j false with
  | true =>
   obtain ⟨b', G', h', hd, hsz, hsame, hp⟩ := again hT hs (A := A) rc b G hrest (fun i hi => hfl i (by simp [hi])) hk h
   refine ⟨b', G', h', hd, hsz, fun t ht => hsame t (fun i hi => ht i (by simp [hi])), fun i hi hAi => ?_⟩
   rcases List.mem_cons.1 hi with rfl | hi
   ·rw [hA] at hAi; cases hAi
   ·exact hp i hi hAi
  | false =>
   cases ho : ops[j]? with
   | none => rw [ho] at hkj; exact hkj.elim
   | some o =>
    rw [ho] at hkj
    replace hkj : guardK ops o st (reKF T C o) (skOk o.dst) := hkj
    have hf : floatOp T o.op = true := by have := hfl j (by simp); simpa [flI, ho] using this
    have hkj' : gstep T C ops o (fun s => s = st) st := by
     unfold gstep
     unfold guardK at hkj ⊢
     have hyes : reKF T C o st → stepX T C o (fun s => s = st) st := fun h => reX_same h
     have hno : skOk o.dst st → kSk o.dst (fun s => s = st) st := by
      intro h
      unfold skOk at h
      unfold kSk
      cases hd : o.dst with
      | none => rfl
      | some t =>
       rw [hd] at h
       have h1 := (chk_and h).1
       simp only [setD, setE]
       have : lkp st.env t = .sk := by
        revert h1
        cases lkp st.env t <;> simp [isSk]
       rw [← this, upd_same]
     cases hg : o.guard with
     | none => rw [hg] at hkj; exact hyes hkj
     | some q =>
      obtain ⟨j', want⟩ := q
      rw [hg] at hkj
      simp only at hkj ⊢
      cases hd : (ops[j']?).bind (·.dst) with
      | none => rw [hd] at hkj; exact hkj.elim
      | some d =>
       rw [hd] at hkj
       simp only at hkj ⊢
       split at hkj
       ·exact hno hkj
       ·rename_i x hl
        have hsame : setE st d (.b x) = st := by simp only [setE]; rw [← hl, upd_same]
        by_cases hx : x = want
        ·have := cnd.yes hkj (by simp [hx])
         rw [← hx, hsame] at this
         refine cnd.mk (fun _ => ?_) (fun e => by simp [hx] at e)
         rw [← hx, hsame]; exact hyes this
        ·have hx' : x = !want := by cases x <;> cases want <;> simp_all
         have := cnd.no hkj (by simpa using hx)
         rw [← hx', hsame] at this
         refine cnd.mk (fun e => absurd (by simpa using e) hx) (fun _ => ?_)
         rw [← hx', hsame]; exact hno this
       ·exact hkj.elim
    obtain ⟨v, st1, G1, e, h1, hp1⟩ := float_now hT hs ho hf h hkj' hself
    rw [e] at h1
    obtain ⟨b', G', h', hd, hsz, hsame, hp⟩ := again hT hs (A := A) rc (b.put o.dst v) G1 hrest (fun i hi => hfl i (by simp [hi])) hk h1
    refine ⟨b', G', h', by rw [hd, AM.Act.put_defers], by rw [hsz, put_size], fun t ht => ?_, fun i hi hAi => ?_⟩
    ·rw [hsame t (fun i hi => ht i (by simp [hi])), put_get (by rw [← dst_eq ho]; exact ht j (by simp) hA)]
    ·rcases List.mem_cons.1 hi with rfl | hi
     ·obtain ⟨o', u, ho', hr, hv⟩ := hp1
      have hk' : ∀ k ∈ rc, usesI ops i (dstI ops k) = false ∧ ∀ t, dstI ops k = some t → dstI ops i ≠ some t := fun k hk => uses_clash (hcl k hk)
      refine ⟨o', u, ho', ?_, fun t ht hlt => ?_⟩
      ·have hcg : ∀ t, usesI ops i (some t) = true → b'.tmps[t]? = (b.put o.dst v).tmps[t]? := fun t ht => hsame t (fun k hk _ e => by have := (hk' k hk).1; rw [e, ht] at this; cases this)
       rw [wanted_congr (a := b') (b := b.put o.dst v) ho' hcg, exec_congr (a := b') (b := b.put o.dst v) ho' hs hcg]
       exact hr
      ·rw [hsame t (fun k hk _ e => (hk' k hk).2 t e (by rw [dst_eq ho']; exact ht))]
       exact hv t ht (by rw [← hsz]; exact hlt)
     ·exact hp i hi hAi
end
section
variable {P : Program} {T : Nat → TI} {C : CallP} {w0 w w' : World} {L : Lv} {st st1 : St} {a b : Act} {G G' : Gh} {ops : Array Oper} {K : St → Prop} {Q : Exit → Act → World → Prop} {ds : List Deferred}
def todo (ops : Array Oper) (A : Array Bool) : Nat := ((List.range ops.size).filter fun i => !A.getD i false).length
theorem todo_set {A : Array Bool} {i : Nat} (hs : A.size = ops.size) (hi : i < ops.size) (hA : A.getD i false = false) : todo ops A = todo ops (A.setIfInBounds i true) + 1 := by
 unfold todo
 have key : ∀ (l : List Nat), l.Nodup → i ∈ l → ((l.filter fun j => !A.getD j false).length = (l.filter fun j => !(A.setIfInBounds i true).getD j false).length + 1) := by
  have none : ∀ l : List Nat, i ∉ l → l.filter (fun j => !(A.setIfInBounds i true).getD j false) = l.filter (fun j => !A.getD j false) := by
   intro l hl
   apply List.filter_congr
   intro j hj
   rw [getD_set_ne false (fun e => hl (by rw [e]; exact hj))]
  intro l
  induction l with
  | nil => intro _ h; simp at h
  | cons x l ih =>
   intro hnd hm
   obtain ⟨h1, h2⟩ := List.nodup_cons.1 hnd
   by_cases hx : x = i
   ·subst hx
    have e1 : (A.setIfInBounds x true).getD x false = true := by simp [hs, hi]
    rw [List.filter_cons_of_pos (by simp only [hA, Bool.not_false]), List.filter_cons_of_neg (by simp only [e1, Bool.not_true]; simp), none l h1]
    simp
   ·have hm' : i ∈ l := by rcases List.mem_cons.1 hm with h | h; exact absurd h.symm hx; exact h
    have e1 : (A.setIfInBounds i true).getD x false = A.getD x false := getD_set_ne false (fun e => hx e.symm)
    have := ih h2 hm'
    cases hA2 : A.getD x false with
    | true => rw [List.filter_cons_of_neg (by simp [hA2]), List.filter_cons_of_neg (by rw [e1, hA2]; simp)]; exact this
    | false => rw [List.filter_cons_of_pos (by simp [hA2]), List.filter_cons_of_pos (by rw [e1, hA2]; rfl)]; simp only [List.length_cons]; omega
 exact key _ List.nodup_range (List.mem_range.2 hi)
theorem ready_iff {A : Array Bool} {i : Nat} (hs : A.size = ops.size) : i ∈ Region.ready .any ops A ↔ i < ops.size ∧ A.getD i false = false ∧ ∀ j ∈ preds ops i, A.getD j false = true := by
 rw [mem_ready]
 constructor
 ·rintro ⟨h0, o, ho, h⟩
  have hlt : i < ops.size := (Array.getElem?_eq_some_iff.1 ho).1
  refine ⟨hlt, ?_, fun j hj => ?_⟩
  ·simp only [Array.getD_eq_getD_getElem?] at h0 ⊢
   rw [Array.getElem?_eq_getElem (by omega)] at h0 ⊢
   simpa using h0
  ·simp only [preds, ho, List.mem_map, List.mem_filter] at hj
   obtain ⟨e, ⟨he, hb⟩, rfl⟩ := hj
   exact h e (by simpa using he) hb
 ·rintro ⟨hlt, h0, h⟩
  refine ⟨?_, ops[i], Array.getElem?_eq_getElem hlt, fun e he hb => h _ ?_⟩
  ·simp only [Array.getD_eq_getD_getElem?] at h0 ⊢
   rw [Array.getElem?_eq_getElem (by omega)] at h0 ⊢
   simpa using h0
  ·simp only [preds, Array.getElem?_eq_getElem hlt, List.mem_map, List.mem_filter]
   exact ⟨e, ⟨by simpa using he, hb⟩, rfl⟩
theorem chain_in {A : Array Bool} {e : Nat} (hclo : ∀ i, A.getD i false = true → ∀ j ∈ preds ops i, A.getD j false = true) (he : ∀ j ∈ preds ops e, A.getD j false = true) : ∀ (pr seen : List Nat), chainOk ops seen pr = true →
  (∀ i ∈ seen, i = e ∨ A.getD i false = true) → ∀ j ∈ pr, A.getD j false = true
 | [], _, _, _, j, hj => by simp at hj
 | x :: pr, seen, hok, hseen, j, hj => by
  simp only [chainOk, Bool.and_eq_true, List.any_eq_true] at hok
  obtain ⟨⟨i, hi, hx⟩, hrest⟩ := hok
  have hAx : A.getD x false = true := by
   have hx' : x ∈ preds ops i := by simpa using hx
   rcases hseen i hi with rfl | h
   ·exact he x hx'
   ·exact hclo i h x hx'
  rcases List.mem_cons.1 hj with rfl | hj
  ·exact hAx
  ·exact chain_in hclo he pr (x :: seen) hrest (fun i hi => by rcases List.mem_cons.1 hi with rfl | hi; exact .inr hAx; exact hseen i hi) j hj
theorem branch {e : Nat} {done : List Nat} : ∀ (p : Plan), e ∈ alts p → okBr T ops done p = true → planK T C ops K p st → ∃ (pr rc fs : List Nat) (sub : Plan) (o : Oper), ops[e]? = some o ∧ brOk T ops done e pr rc fs = true ∧
  topOk T ops (fs.reverse ++ e :: done) sub = true ∧ okBr T ops (fs.reverse ++ e :: done) sub = true ∧ gstep T C ops o (fun st1 => rcK T C ops rc st1 ∧ flK T C ops fs (planK T C ops K sub) st1) st
 | .fin, h, _, _ => by simp [alts] at h
 | .br e' pr rc fs sub alt, h, hok, hk => by
  simp only [okBr, Bool.and_eq_true] at hok
  obtain ⟨⟨⟨h1, h2⟩, h3⟩, h4⟩ := hok
  unfold planK at hk
  obtain ⟨hk1, hk2⟩ := hk
  simp only [alts] at h
  rcases List.mem_cons.1 h with rfl | h
  ·cases ho : ops[e]? with
   | none => rw [ho] at hk1; exact hk1.elim
   | some o => rw [ho] at hk1; exact ⟨pr, rc, fs, sub, o, rfl, h1, h2, h3, hk1⟩
  ·cases alt with
   | fin => simp [alts] at h
   | br e2 pr2 rc2 fs2 sub2 alt2 => exact branch _ h h4 hk2
theorem sim_any (hT : LayOk P T) (hC : CSound P C) (hglob : globOk T ops = true) (hQ : ∀ a w, a.defers = ds → Nx w0 L ds K a w → Q .normal a w) :
  ∀ (fuel : Nat) (A : Array Bool) (done : List Nat) (p : Plan) (st : St) (a b : Act) (w : World), todo ops A = fuel → Sim P T w0 L ds ops A done st a b w → topOk T ops done p = true → okBr T ops done p = true → planK T C ops K p st →
   wpAny P .any ops Q fuel A a w := by
 have hglob0 := hglob
 simp only [globOk, Bool.and_eq_true] at hglob
 obtain ⟨⟨hns, hlt⟩, hsee⟩ := hglob
 have hlt : ∀ i, ∀ j ∈ preds ops i, j < i := by
  intro i j hj
  by_cases hi : i < ops.size
  ·have := List.all_eq_true.1 hlt i (List.mem_range.2 hi)
   exact of_decide_eq_true (List.all_eq_true.1 this j hj)
  ·simp [preds, Array.getElem?_eq_none (Nat.le_of_not_lt hi)] at hj
 have hsee : ∀ k j, flI T ops k = true → k < ops.size → j < ops.size → usesI ops j (dstI ops k) = true → k ∈ preds ops j := by
  intro k j hf hk hj hu
  have h1 := List.all_eq_true.1 hsee k (List.mem_range.2 hk)
  simp only [hf, Bool.not_true, Bool.false_or] at h1
  have h2 := List.all_eq_true.1 h1 j (List.mem_range.2 hj)
  simp only [hu, Bool.not_true, Bool.false_or] at h2
  simpa using h2
 have flt : ∀ k, flI T ops k = true → k < ops.size := by
  intro k hk
  rcases Nat.lt_or_ge k ops.size with h | h
  ·exact h
  ·simp [flI, Array.getElem?_eq_none h] at hk
 intro fuel
 have hend : ∀ (A : Array Bool) (done : List Nat) (p : Plan) (st : St) (a b : Act) (w : World), Sim P T w0 L ds ops A done st a b w → topOk T ops done p = true → okBr T ops done p = true → planK T C ops K p st →
   Region.ready .any ops A = [] → Q .normal a w := by
  intro A done p st a b w hsim htop hbr hk hnil
  have hall : ∀ i, i < ops.size → A.getD i false = true := by
   intro i
   induction i using Nat.strongRecOn with
   | _ i ih =>
    intro hi
    cases hA : A.getD i false with
    | true => rfl
    | false =>
     have : i ∈ Region.ready .any ops A := (ready_iff hsim.asize).2 ⟨hi, hA, fun j hj => ih j (hlt i j hj) (by have := hlt i j hj; omega)⟩
     rw [hnil] at this; cases this
  cases p with
  | br e pr rc fs sub alt =>
   exfalso
   simp only [okBr, Bool.and_eq_true] at hbr
   have h1 := hbr.1.1.1
   simp only [brOk, Bool.and_eq_true, decide_eq_true_eq, Bool.not_eq_true'] at h1
   have hlt' := h1.1.1.1.1.1.1.2
   have hnd := h1.1.1.1.1.1.2
   have := hsim.sub e (hall e hlt')
   simp at hnd
   exact hnd this
  | fin =>
   obtain ⟨G, hsr⟩ := hsim.sr
   have heq : a.tmps = b.tmps := by
    apply Array.ext_getElem?
    intro t
    refine hsim.same t fun i hi hf hA => ?_
    rw [hall i (flt i hf)] at hA; cases hA
   refine hQ a w hsim.da ⟨st, G, hk, ?_, hsim.da⟩
   rw [heq]; exact hsr
 induction fuel with
 | zero =>
  intro A done p st a b w hf hsim htop hbr hk
  have hnil : Region.ready .any ops A = [] := by
   cases hr : Region.ready .any ops A with
   | nil => rfl
   | cons i l =>
    exfalso
    have hi : i ∈ Region.ready .any ops A := by rw [hr]; simp
    obtain ⟨h1, h2, _⟩ := (ready_iff hsim.asize).1 hi
    have := todo_set hsim.asize h1 h2
    omega
  exact ⟨hnil, hend A done p st a b w hsim htop hbr hk hnil⟩
 | succ fuel ih =>
  intro A done p st a b w hf hsim htop hbr hk
  refine ⟨hend A done p st a b w hsim htop hbr hk, fun i hi => ?_⟩
  obtain ⟨hilt, hA, hpr⟩ := (ready_iff hsim.asize).1 hi
  have htodo : todo ops (A.setIfInBounds i true) = fuel := by have := todo_set hsim.asize hilt hA; omega
  have hAset : ∀ j, (A.setIfInBounds i true).getD j false = true ↔ j = i ∨ A.getD j false = true := by
   intro j
   by_cases hj : j = i
   ·subst hj; simp [hsim.asize, hilt]
   ·rw [getD_set_ne false (fun e => hj e.symm)]; simp [hj]
  have hAset0 : ∀ j, (A.setIfInBounds i true).getD j false = false → j ≠ i ∧ A.getD j false = false := by
   intro j hj
   constructor
   ·intro e; have := (hAset j).2 (.inl e); rw [hj] at this; cases this
   ·cases h : A.getD j false with
    | false => rfl
    | true => have := (hAset j).2 (.inr h); rw [hj] at this; cases this
  have hclo' : ∀ j, (A.setIfInBounds i true).getD j false = true → ∀ k ∈ preds ops j, (A.setIfInBounds i true).getD k false = true := by
   intro j hj k hk'
   rcases (hAset j).1 hj with rfl | hj
   ·exact (hAset k).2 (.inr (hpr k hk'))
   ·exact (hAset k).2 (.inr (hsim.clo j hj k hk'))
  obtain ⟨o, ho⟩ : ∃ o, ops[i]? = some o := ⟨_, Array.getElem?_eq_getElem hilt⟩
  have hcg : ∀ t, usesI ops i (some t) = true → a.tmps[t]? = b.tmps[t]? := by
   refine fun t ht => hsim.same t fun k hk1 hk2 hk3 hk4 => ?_
   have := hsee k i hk2 (flt k hk2) hilt (by rw [hk4]; exact ht)
   rw [hpr k this] at hk3; cases hk3
  have halike : execOp a.eval o = execOp b.eval o := exec_congr ho hns hcg
  have hwl : Region.wanted o (yielded ops a.tmps) = Region.wanted o (yielded ops b.tmps) := wanted_congr ho hcg
  unfold wpOp
  rw [ho]
  simp only [hwl]
  by_cases hdone : i ∈ done
  ·
   have hfl : flI T ops i = true := by
    cases h : flI T ops i with
    | true => rfl
    | false => have := hsim.eff i hdone h; rw [hA] at this; cases this
   obtain ⟨o', v, ho', hrun, hv⟩ := hsim.pend i hdone hfl hA
   rw [ho] at ho'; cases ho'
   suffices hgo : wpAny P .any ops Q fuel (A.setIfInBounds i true) (a.put o.dst v) w by
    rcases hrun with ⟨hw, hrun⟩ | ⟨hw, rfl⟩
    ·rw [if_pos hw]
     left
     unfold Oper.wp
     rw [halike, hrun, Oper.upon_value]
     exact hgo
    ·rw [if_neg (by rw [hw]; simp)]
     exact hgo
   refine ih _ done p st _ b w htodo ?_ htop hbr hk
   exact
    {sr := hsim.sr, db := hsim.db
     da := by rw [AM.Act.put_defers]; exact hsim.da
     size := by rw [put_size]; exact hsim.size
     same := fun t ht => by
      by_cases hd : o.dst = some t
      ·rw [put_get_same hsim.size hd]
       by_cases hlt : t < b.tmps.size
       ·rw [hv t hd hlt, hd]; simp [Act.put, hlt]
       ·have h2 : b.tmps[t]? = none := Array.getElem?_eq_none (Nat.le_of_not_lt hlt)
        rw [h2, Array.getElem?_eq_none (by rw [put_size]; exact Nat.le_of_not_lt hlt)]
      ·rw [put_get hd]
       refine hsim.same t fun k hk1 hk2 hk3 hk4 => ?_
       by_cases hki : k = i
       ·subst hki; rw [dst_eq ho] at hk4; exact hd hk4
       ·exact ht k hk1 hk2 (by rw [getD_set_ne false (fun e => hki e.symm)]; exact hk3) hk4
     pend := fun k hk1 hk2 hk3 => hsim.pend k hk1 hk2 (hAset0 k hk3).2
     asize := by simp [hsim.asize]
     sub := fun k hk => by
      rcases (hAset k).1 hk with rfl | hk
      ·exact hdone
      ·exact hsim.sub k hk
     eff := fun k hk1 hk2 => (hAset k).2 (.inr (hsim.eff k hk1 hk2))
     clo := hclo' }
  ·
   have htop0 := htop
   simp only [topOk, Bool.and_eq_true] at htop
   have h1 := List.all_eq_true.1 htop.1 i (List.mem_range.2 hilt)
   have hpd : (preds ops i).all done.contains = true := List.all_eq_true.2 fun j hj => by simpa using hsim.sub j (hpr j hj)
   simp only [hpd, Bool.not_true, Bool.or_false, Bool.or_eq_true, Bool.and_eq_true, Bool.not_eq_true'] at h1
   have h2 : flI T ops i = false ∧ i ∈ alts p := by
    rcases h1 with h1 | h1
    ·exact absurd (by simpa using h1) hdone
    ·exact ⟨h1.1, by simpa using h1.2⟩
   obtain ⟨hfi, hial⟩ := h2
   obtain ⟨pr, rc, fs, sub, o', ho', hb1, htop2, hbr2, hstep⟩ := branch p hial hbr hk
   rw [ho] at ho'; cases ho'
   simp only [brOk, Bool.and_eq_true, Bool.not_eq_true', List.all_eq_true, Bool.or_eq_true] at hb1
   obtain ⟨⟨⟨⟨⟨_, hchain⟩, hcover⟩, hrc⟩, hrcok⟩, hfs⟩ := hb1
   obtain ⟨G, hsr⟩ := hsim.sr
   suffices hgo : ∀ (v : Value) (w' : World) (st1 : St) (G1 : Gh), (rcK T C ops rc st1 ∧ flK T C ops fs (planK T C ops K sub) st1) → SR w0 L st1 (b.put o.dst v).tmps w' G1 → wpAny P .any ops Q fuel (A.setIfInBounds i true) (a.put o.dst v) w' by
    rcases guard_split hsr hstep with ⟨hw, hstep⟩ | ⟨hw, hstep⟩
    ·rw [if_pos hw]
     left
     have hwp := sound_opX (Q := fun _ _ _ => False) hT hC hsr hstep
     refine Oper.wp_mono ?_ (wp_pair (Q := Q) halike (by rw [hsim.da, hsim.db]) hwp (fun b' w' hn => by obtain ⟨_, _, _, _, hd⟩ := hn; exact hd))
     rintro a' w' ⟨v, rfl, st1, G1, hkk, hsr1, _⟩
     exact hgo v w' st1 G1 hkk hsr1
    ·rw [if_neg (by rw [hw]; simp)]
     exact hgo undef w _ G hstep (hsr.sk o.dst)
   rintro v w' st1 G1 ⟨hrck, hflk⟩ hsr1
   obtain ⟨b2, G2, hsr2, hd2, hsz2, hsame2, hpend2⟩ := again hT hns (A := A) rc (b.put o.dst v) G1 hrcok (fun j hj => (hrc j hj).1.2) hrck hsr1
   obtain ⟨b3, st3, G3, hk3, hsr3, hd3, hsz3, hsame3, hnew3, hold3⟩ := floats_now hT hns fs (i :: done) st1 b2 G2 _ hfs hflk hsr2
   have hchainA : ∀ j ∈ pr, A.getD j false = true := chain_in hsim.clo hpr pr [i] hchain (fun k hk => .inl (by simpa using hk))
   have hrcfl : ∀ j ∈ rc, clash ops i j = false := fun j hj => (hrc j hj).2
   refine ih _ (fs.reverse ++ i :: done) sub st3 _ b3 w' htodo ?_ htop2 hbr2 hk3
   exact
    {sr := ⟨G3, hsr3⟩
     db := by rw [hd3, hd2, AM.Act.put_defers]; exact hsim.db
     da := by rw [AM.Act.put_defers]; exact hsim.da
     size := by rw [put_size, hsz3, hsz2, put_size]; exact hsim.size
     same := fun t ht => by
      have hfsn : ∀ k ∈ fs, dstI ops k ≠ some t := fun k hk => by
       obtain ⟨q1, q2, _⟩ := hnew3 k hk
       refine ht k (by simp [hk]) q1 ?_
       cases hh : (A.setIfInBounds i true).getD k false with
       | false => rfl
       | true =>
        rcases (hAset k).1 hh with rfl | hh
        ·exact absurd (by simp) q2
        ·exact absurd (List.mem_cons_of_mem _ (hsim.sub k hh)) q2
      rw [hsame3 t hfsn]
      have hrcn : ∀ k ∈ rc, A.getD k false = false → dstI ops k ≠ some t := fun k hk hAk => by
       have := hrc k hk
       simp only [List.contains_eq_mem, decide_eq_true_eq] at this
       refine ht k (by simp [this.1.1]) this.1.2 ?_
       rw [getD_set_ne false (fun e => hdone (by rw [e]; exact this.1.1))]; exact hAk
      rw [hsame2 t hrcn]
      by_cases hd : o.dst = some t
      ·exact put_get_same hsim.size hd
      ·rw [put_get hd, put_get hd]
       refine hsim.same t fun k hk1 hk2 hk3' hk4 => ?_
       exact ht k (by simp [hk1]) hk2 (by rw [getD_set_ne false (fun e => hdone (by rw [e]; exact hk1))]; exact hk3') hk4
     pend := fun k hk1 hk2 hk3' => by
      obtain ⟨hki, hkA⟩ := hAset0 k hk3'
      rcases List.mem_append.1 hk1 with hk1 | hk1
      ·exact (hnew3 k (by simpa using hk1)).2.2
      ·rcases List.mem_cons.1 hk1 with e | hk1
       ·exact absurd e hki
       ·have hc := hcover k hk1
        rcases hc with (hc | hc) | hc
        ·rw [hk2] at hc; cases hc
        ·have := hchainA k (by simpa using hc); rw [hkA] at this; cases this
        ·exact hold3 k (by simp [hk1]) hk2 (hpend2 k (by simpa using hc) hkA)
     asize := by simp [hsim.asize]
     sub := fun k hk => by
      rcases (hAset k).1 hk with rfl | hk
      ·simp
      ·simp [hsim.sub k hk]
     eff := fun k hk1 hk2 => by
      rcases List.mem_append.1 hk1 with hk1 | hk1
      ·have := (hnew3 k (by simpa using hk1)).1; rw [hk2] at this; cases this
      ·rcases List.mem_cons.1 hk1 with rfl | hk1
       ·exact (hAset k).2 (.inl rfl)
       ·exact (hAset k).2 (.inr (hsim.eff k hk1 hk2))
     clo := hclo' }
end
section
variable {P : Program} {T : Nat → TI} {C : CallP} {w0 w w' : World} {L : Lv} {st st1 : St} {a : Act} {G G' : Gh} {Q Q' : AQ} {K K' : St → Prop} {ds : List Deferred}
theorem sp_regionX {id : Nat} {ops : Array Oper} (hT : LayOk P T) (hC : CSound P C) (h : opsX T C ops ops.toList (Q .normal) st) : sp P (.region id ops false) Q st := fun w0 w L a G hs =>
 wp_region_list (sound_opsX hT hC ops.toList (Q .normal) st a w G hs h (fun _ _ h => h))
theorem sp_draw {id : Nat} {ops : Array Oper} (hT : LayOk P T) (hC : CSound P C) (hm : P.follows .mixedOrders = true) {fs : List Nat} {p : Plan} (hok : planOk T ops fs p = true) (h : flK T C ops fs (planK T C ops (Q .normal) p) st) :
  sp P (.region id ops true) Q st := by
 intro w0 w L a G ⟨fE, fO, hs⟩
 simp only [planOk, Bool.and_eq_true] at hok
 obtain ⟨⟨⟨hglob, hfs⟩, htop⟩, hbr⟩ := hok
 have hns : Region.noSelect ops = true := by
  simp only [globOk, Bool.and_eq_true] at hglob
  exact hglob.1.1
 refine wp_region_any hm ?_
 have hsr : SR w0 L st a.tmps w.drew G := ⟨fE, fO, hs.drew⟩
 obtain ⟨b, st', G', hk, hsr', hd, hsz, hsame, hnew, _⟩ := floats_now hT hns fs [] st a G _ hfs h hsr
 have hfalse : ∀ j, (Array.replicate ops.size false).getD j false = false := fun j => by
  simp only [Array.getD_eq_getD_getElem?, Array.getElem?_replicate]
  split <;> rfl
 refine sim_any (w0 := w0) (L := L) (ds := a.defers) hT hC hglob (fun a' w' _ hn => hn) ops.size _ fs.reverse p st' a b w.drew ?_ ?_ htop hbr hk
 ·unfold todo
  rw [List.filter_eq_self.2 (fun i _ => by rw [hfalse]; rfl)]
  simp
 ·exact
   {sr := ⟨G', hsr'⟩, db := hd, da := rfl, size := hsz.symm
    same := fun t ht => (hsame t fun i hi => ht i (by simpa using hi) (hnew i hi).1 (hfalse i)).symm
    pend := fun i hi _ _ => (hnew i (by simpa using hi)).2.2
    asize := by simp
    sub := fun i hi => by rw [hfalse] at hi; cases hi
    eff := fun i hi hf => by rw [(hnew i (by simpa using hi)).1] at hf; cases hf
    clo := fun i hi => by rw [hfalse] at hi; cases hi }
end
end Go.AX
end
