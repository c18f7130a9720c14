/- Part 10 of the proof that, for every class, FrameMany of the code and of the specification agree; no condition. -/
import Derived.Test.YtdpapeledldifaaGreatX08
set_option autoImplicit true
set_option relaxedAutoImplicit true
set_option linter.all false
section
namespace Go.TM
open Go.AM
section
variable {R : Type}
abbrev TCalls := (R : Type) → TCall R
def guardT (ops : Array Oper) (o : Oper) (s : TS) (yes no : TS → Option R) : Option R := match o.guard with
 | none => yes s
 | some (j, w) => match (ops[j]?).bind (·.dst) with
  | some d => match lookT s d with
   | .sk => no s
   | .b x => (match w with
    | true => cndO x (yes (setT s d (.b true))) (no (setT s d (.b false)))
    | false => cndO x (no (setT s d (.b true))) (yes (setT s d (.b false))))
   | _ => none
  | none => none
def tmake (T : Nat → TI) (C : TCall R) (o : Oper) (K : TS → Option R) (s : TS) : Option R := match o.op with
 | .makeSlice t l c => (match (T t).kind with
  | .slice e => (match gt T 8 e with
   | some g => (match g.flat with
    | true => tstep T C o s K
    | false => (match evT s l, evT s c with
     | .i .i64 n, .i .i64 m => chkO ((T e).known && tstep.eqSVs (normRow T (flat T 4 e) (T e).zero) (encC true g g.dflt) && g.sz == (T e).size) (grdO (decide (n = m) && decide (0 ≤ n) && decide (n ≤ 9223372036854775807) && decide (n * (T e).bytes ≤ 140737488355328)) (K (setDT s o.dst (.own g true (List.replicate n.toNat g.dflt)))))
     | _, _ => none))
   | none => none)
  | _ => none)
 | _ => tstep T C o s K
def tstepX (T : Nat → TI) (C : TCall R) (gz : List Nat) (o : Oper) (K : TS → Option R) (s : TS) : Option R := prepX T gz o (tmake T C o K) s
def topsT (T : Nat → TI) (C : TCalls) (gz : List Nat) (ops : Array Oper) : List Oper → (TS → Option R) → TS → Option R
 | [], K, s => K s
 | o :: rest, K, s => guardT ops o s (tstepX T (C R) gz o (topsT T C gz ops rest K)) (kSkT o.dst (topsT T C gz ops rest K))
def gstepT (T : Nat → TI) (C : TCalls) (gz : List Nat) (ops : Array Oper) (o : Oper) (K : TS → Option R) (s : TS) : Option R := guardT ops o s (tstepX T (C R) gz o K) (kSkT o.dst K)
def flT (T : Nat → TI) (C : TCalls) (gz : List Nat) (ops : Array Oper) : List Nat → (TS → Option R) → TS → Option R
 | [], K, s => K s
 | i :: l, K, s => match ops[i]? with
  | some o => gstepT T C gz ops o (flT T C gz ops l K) s
  | none => none
def noOwnT (row : List V) : Nat → Nat → Bool
 | 0, _ => true
 | n + 1, j => !hasOwnV (lkV row j) && noOwnT row n (j + 1)
def simpleT (T : Nat → TI) (o : Oper) (s : TS) : Bool := match o.op with
 | .move x => !hasOwnV (evT s x)
 | .pick _ a b => !hasOwnV (evT s a) && !hasOwnV (evT s b)
 | .nilCheck _ | .unOp .. | .binOp .. | .fieldAddr .. | .field .. | .index .. | .makeFunc .. | .convert .. => true
 | .build _ ps => !hasOwnVL (evTL s (opnds ps))
 | .load t a => match evT s a with
  | .ro _ => true
  | .p o i off => match getT s.ob o with
   | some (.box _ cs) => (match i with
    | 0 => noOwnT cs (T t).size off
    | _ + 1 => false)
   | some (.arr _ _ _ _) => !isSlice (T t).kind
   | none => false
  | _ => false
 | .slice _ x _ _ _ => match evT s x with
  | .s _ | .sl _ _ | .nil => true
  | _ => false
 | .indexAddr _ x _ => match evT s x with
  | .sl _ _ | .ar _ => true
  | _ => false
 | .extract x j => match x with
  | .tmp t => match lookT s t with
   | .tup vs => !hasOwnV (lkV vs j)
   | _ => false
  | _ => false
 | .call c => match c.callee with
  | .builtin .len => true
  | _ => false
 | _ => false
def eqSlotT (d : Option Tmp) (s s' : TS) : Bool := match d with
 | some t => eqVb (lookT s' t) (lookT s t)
 | none => true
def reT (T : Nat → TI) (C : TCalls) (o : Oper) (s : TS) : Option Unit := chkO (simpleT T o s) (tstep T (C Unit) o s fun s' => grdO (eqSlotT o.dst s s') (some ()))
def skT (d : Option Tmp) (s : TS) : Option Unit := match d with
 | some t => (match lookT s t with | .sk => some () | _ => none)
 | none => some ()
def rcT (T : Nat → TI) (C : TCalls) (ops : Array Oper) : List Nat → TS → Option Unit
 | [], _ => some ()
 | i :: l, s => match ops[i]? with
  | some o => seqU (guardT ops o s (reT T C o) (skT o.dst)) (rcT T C ops l s)
  | none => none
noncomputable def bothO (a b : Option R) : Option R := @ite _ (a = b) (Classical.propDecidable _) a none
noncomputable def planT (T : Nat → TI) (C : TCalls) (gz : List Nat) (ops : Array Oper) (K : TS → Option R) : Plan → TS → Option R
 | .fin, s => K s
 | .br e _ rc fs sub alt, s => match alt with
  | .fin => (match ops[e]? with
   | some o => gstepT T C gz ops o (fun s1 => seqU (rcT T C ops rc s1) (flT T C gz ops fs (planT T C gz ops K sub) s1)) s
   | none => none)
  | alt => bothO (match ops[e]? with
   | some o => gstepT T C gz ops o (fun s1 => seqU (rcT T C ops rc s1) (flT T C gz ops fs (planT T C gz ops K sub) s1)) s
   | none => none) (planT T C gz ops K alt s)
def setBT (s : TS) (c : Operand) (b : Bool) : TS := match c with
 | .tmp t => setT s t (.b b)
 | _ => s
end
def thenT {R : Type} (next : TS → Option R) (Q : AX → TS → Option R) : AX → TS → Option R
 | .normal, s => next s
 | .exit id, s => Q (.exit id) s
 | .ret, s => Q .ret s
def blockT {R : Type} (id : Nat) (Q : AX → TS → Option R) : AX → TS → Option R
 | .normal, s => Q .normal s
 | .exit id', s => bif id' == id then Q .normal s else Q (.exit id') s
 | .ret, s => Q .ret s
def thenJ {Y R : Type} (next : TS → Option (Y ⊕ R)) (Q : AX → TS → Option R) : AX → TS → Option (Y ⊕ R)
 | .normal, s => next s
 | .exit id, s => mapR (Q (.exit id) s)
 | .ret, s => mapR (Q .ret s)
def blockJ {Y R : Type} (id : Nat) (next : TS → Option (Y ⊕ R)) (Q : AX → TS → Option R) : AX → TS → Option (Y ⊕ R)
 | .normal, s => next s
 | .exit id', s => bif id' == id then next s else mapR (Q (.exit id') s)
 | .ret, s => mapR (Q .ret s)
noncomputable def tev (T : Nat → TI) (C : TCalls) (pl : Nat → List Nat × Plan) (N : Nat) (iv : Nat → Option SPat) : Code → (R : Type) → (AX → TS → Option R) → TS → Option R
 | .skip, _, Q, s => Q .normal s
 | .region id ops draw, _, Q, s => match draw with
  | false => topsT T C (pl (3000000 + id)).1 ops ops.toList (Q .normal) s
  | true => flT T C (pl (3000000 + id)).1 ops (pl id).1 (planT T C (pl (3000000 + id)).1 ops (Q .normal) (pl id).2) s
 | .seq x y, R, Q, s => match iv (1000000 + cid y) with
  | some p => bindE (tev T C pl N iv x (p.Den ⊕ R) (thenJ (takeS N p fun z => some (.inl z)) Q) s) fun z => tev T C pl N iv y R Q (encS N p z)
  | none => tev T C pl N iv x R (thenT (tev T C pl N iv y R Q) Q) s
 | .cond c x y, R, Q, s => match evT s c with
  | .b t => cndO t (tev T C pl N iv x R Q (setBT s c true)) (tev T C pl N iv y R Q (setBT s c false))
  | _ => none
 | .block id c, R, Q, s => match iv (2000000 + id) with
  | some p => bindE (tev T C pl N iv c (p.Den ⊕ R) (blockJ id (takeS N p fun z => some (.inl z)) Q) s) fun z => Q .normal (encS N p z)
  | none => tev T C pl N iv c R (blockT id Q) s
 | .loop c, R, Q, s => match iv (cid c) with
  | some p => takeS N p (fun x0 => whileO (fun x => tev T C pl N iv c (p.Den ⊕ R) (thenJ (takeS N p fun z => some (.inl z)) Q) (encS N p x)) x0) s
  | none => none
 | .exit id, _, Q, s => Q (.exit id) s
 | .ret, _, Q, s => Q .ret s
 | _, _, _, _ => none
def CallsOk (C : TCalls) (C' : CallP) : Prop := ∀ (R : Type) f xs d s (K : TS → Option R) (K' : St → Prop) (r : R), (∀ s, K s = some r → K' (eS s)) → C R f xs d s K = some r → C' f xs d (eS s) K'
section
variable {P : Program} {R : Type} {T : Nat → TI} {C : TCalls} {gz : List Nat} {C' : CallP} {o : Oper} {ops : Array Oper} {s : TS} {K : TS → Option R} {K' : St → Prop} {r : R}
theorem guardT_sound {yes no : TS → Option R} {yes' no' : St → Prop} (hy : ∀ s, yes s = some r → yes' (eS s)) (hn : ∀ s, no s = some r → no' (eS s)) (h : guardT ops o s yes no = some r) : guardK ops o (eS s) yes' no' := by
 unfold guardT at h
 unfold guardK
 split at h
 ·rename_i hg; rw [hg]; exact hy _ h
 ·rename_i j w hg
  rw [hg]
  simp only
  split at h
  ·rename_i d hd
   rw [hd]
   simp only
   rw [e_lookT]
   split at h
   ·rename_i hv; rw [hv]; exact hn _ h
   ·rename_i x hv
    rw [hv]
    simp only [e]
    have hs : ∀ b : Bool, setE (eS s) d (SV.b b) = eS (setT s d (.b b)) := fun b => setE_e d (.b b)
    split at h
    ·rcases cndO_some h with ⟨hx, h⟩ | ⟨hx, h⟩
     ·subst hx; rw [hs]; exact hy _ h
     ·subst hx; rw [hs, hs]; exact hn _ h
    ·rcases cndO_some h with ⟨hx, h⟩ | ⟨hx, h⟩
     ·subst hx; rw [hs, hs]; exact hn _ h
     ·subst hx; rw [hs]; exact hy _ h
   ·cases h
  ·cases h
theorem normRows_replicate (ks : List TK) (row : List SV) : ∀ n : Nat, normRows T ks (List.replicate n row) = List.replicate n (normRow T ks row)
 | 0 => rfl
 | n + 1 => by simp only [List.replicate_succ, normRows, normRows_replicate ks row n]
theorem tmake_sound (hC : CallsOk C C') (hK : ∀ s, K s = some r → K' (eS s)) (h : tmake T (C R) o K s = some r) : stepK T C' o (eS s) (gK K') := by
 have plain : tstep T (C R) o s K = some r → stepK T C' o (eS s) (gK K') := fun h => tstep_sound (hC R) (fun _ h => gK_id (hK _ h)) h
 unfold tmake at h
 split at h
 ·rename_i t x y ho
  split at h
  ·rename_i t' hk
   split at h
   ·rename_i g hg
    split at h
    ·exact plain h
    ·split at h
     ·rename_i n m hx hy
      obtain ⟨h1, h2⟩ := chkO_some h
      obtain ⟨h3, h4⟩ := grdO_some h2
      simp only [Bool.and_eq_true, decide_eq_true_eq] at h1 h3
      simp only [stepK, stepK0, ho]
      rw [e_evT, e_evT, hk, hx, hy]
      simp only [e]
      refine ⟨h1.1.1, h3.1.1.1, h3.1.1.2, h3.1.2, h3.2, ?_⟩
      refine setD_le (y := .own (T t').size (normRows T (AM.flat T 4 t') (List.replicate n.toNat (T t').zero))) (fun w G v f hr => AM.R.own_wk (normRows_wk _ _) hr) ?_
      have := setD_e (s := s) o.dst (.own g true (List.replicate n.toNat g.dflt))
      simp only [e, List.map_replicate] at this
      rw [normRows_replicate, eqSVs_eq _ _ h1.1.2, ← eq_of_beq h1.2]
      rw [this]
      exact hK _ h4
     ·cases h
   ·cases h
  ·cases h
 ·exact plain h
theorem tstepX_sound (hC : CallsOk C C') (hK : ∀ s, K s = some r → K' (eS s)) (h : tstepX T (C R) gz o K s = some r) : AX.stepX T C' o K' (eS s) :=
 prepX_sound h fun _ h => gK_id (tmake_sound hC hK h)
theorem topsT_sound (hC : CallsOk C C') : ∀ (l : List Oper) {s : TS}, (∀ s, K s = some r → K' (eS s)) → topsT T C gz ops l K s = some r → AX.opsX T C' ops l K' (eS s)
 | [], s, hK, h => hK _ h
 | o :: l, s, hK, h => by
  unfold topsT at h
  unfold AX.opsX
  refine guardT_sound (fun s h => ?_) (fun s h => ?_) h
  ·exact tstepX_sound hC (fun s h => topsT_sound hC l hK h) h
  ·exact kSk_e (K := topsT T C gz ops l K) (fun s h => topsT_sound hC l hK h) s h
theorem gstepT_sound (hC : CallsOk C C') (hK : ∀ s, K s = some r → K' (eS s)) (h : gstepT T C gz ops o K s = some r) : AX.gstep T C' ops o K' (eS s) := by
 unfold gstepT at h
 unfold AX.gstep
 refine guardT_sound (fun s h => ?_) (fun s h => ?_) h
 ·exact tstepX_sound hC hK h
 ·exact kSk_e hK s h
theorem flT_sound (hC : CallsOk C C') : ∀ (l : List Nat) {s : TS}, (∀ s, K s = some r → K' (eS s)) → flT T C gz ops l K s = some r → AX.flK T C' ops l K' (eS s)
 | [], s, hK, h => hK _ h
 | i :: l, s, hK, h => by
  unfold flT at h
  unfold AX.flK
  split at h
  ·rename_i o ho
   rw [ho]
   exact gstepT_sound hC (fun s h => flT_sound hC l hK h) h
  ·cases h
mutual
theorem eqV_refl : ∀ x : SV, eqV x x
 | .i k n => chk_mk (decide_eq_true rfl) rfl
 | .b _ => rfl
 | .s _ => rfl
 | .sl k _ => chk_mk (beq_self_eq_true k) rfl
 | .ar a => chk_mk (beq_self_eq_true a) trivial
 | .p a b c => chk_mk (by simp) trivial
 | .ro c => eqVL_refl c
 | .agg c => eqVL_refl c
 | .u | .sk | .own _ _ | .nilp | .nil | .fn _ _ | .tup _ => rfl
theorem eqVL_refl : ∀ x : List SV, eqVL x x
 | [] => trivial
 | x :: l => ⟨eqV_refl x, eqVL_refl l⟩
end
theorem noOwnT_e : ∀ (row : List V) (n j : Nat), noOwnAt (eL row) n j = noOwnT row n j
 | row, 0, j => rfl
 | row, n + 1, j => by simp only [noOwnAt, noOwnT, ← e_lkV, hasOwn_e, noOwnT_e row n (j + 1)]
theorem simpleT_spec (h : simpleT T o s = true) : simpleAt T o (eS s) = true := by
 unfold simpleT at h
 unfold simpleAt
 cases ho : o.op <;> rw [ho] at h <;> simp only at h ⊢ <;> try (cases h; done)
 case move x => rw [e_evT, hasOwn_e]; exact h
 case pick c x y => rw [e_evT, e_evT, hasOwn_e, hasOwn_e]; exact h
 case build t ps => rw [evTL_e, hasOwnL_e]; exact h
 case load t a =>
  rw [e_evT]
  split at h
  ·rename_i hv; rw [hv]; rfl
  ·rename_i ob i off hv
   rw [hv]
   simp only [e]
   split at h
   ·rename_i n cs hg
    rw [getOb_box hg]
    simp only
    cases i with
    | zero => simp only [List.getElem?_cons_zero]; rw [noOwnT_e]; exact h
    | succ i => cases h
   ·rename_i n g d l hg
    rw [getOb_arr hg]
    simp only
    cases hk : (T t).kind <;> first | rfl | (rw [hk] at h; cases h)
   ·cases h
  ·cases h
 case slice t x lo hi mx =>
  rw [e_evT]
  split at h
  ·rename_i hv; rw [hv]; rfl
  ·rename_i hv; rw [hv]; rfl
  ·rename_i hv; rw [hv]; rfl
  ·cases h
 case indexAddr t x i =>
  rw [e_evT]
  split at h
  ·rename_i hv; rw [hv]; rfl
  ·rename_i hv; rw [hv]; rfl
  ·cases h
 case extract x j =>
  split at h
  ·simp only
   rw [e_lookT]
   split at h
   ·rename_i hv; rw [hv]; simp only [e]; rw [← e_lkV, hasOwn_e]; exact h
   ·cases h
  ·cases h
 case call c =>
  split at h
  ·rename_i hc; rw [hc]
  ·cases h
theorem reT_sound (hC : CallsOk C C') (h : reT T C o s = some ()) : reKF T C' o (eS s) := by
 obtain ⟨h1, h2⟩ := chkO_some h
 unfold reKF reK
 refine chk_mk (simpleT_spec h1) (tstep_sound (hC Unit) (fun s' h3 => ?_) h2)
 obtain ⟨h4, _⟩ := grdO_some h3
 cases hd : o.dst with
 | some t =>
  rw [hd] at h4
  show eqV (lkp (eS s').env t) (lkp (eS s).env t)
  rw [e_lookT, e_lookT, eqVb_e _ _ h4]
  exact eqV_refl _
 | none => trivial
theorem skT_sound {d : Option Tmp} (h : skT d s = some ()) : skOk d (eS s) := by
 unfold skT at h
 unfold skOk
 split at h
 ·simp only
  rw [e_lookT]
  split at h
  ·rename_i hv; rw [hv]; trivial
  ·cases h
 ·trivial
theorem rcT_sound (hC : CallsOk C C') : ∀ (l : List Nat) {s : TS}, rcT T C ops l s = some () → AX.rcK T C' ops l (eS s)
 | [], s, h => trivial
 | i :: l, s, h => by
  unfold rcT at h
  unfold AX.rcK
  split at h
  ·rename_i o ho
   rw [ho]
   obtain ⟨h1, h2⟩ := seqU_some h
   exact ⟨guardT_sound (fun s h => reT_sound hC h) (fun s h => skT_sound h) h1, rcT_sound hC l h2⟩
  ·cases h
theorem bothO_some {a b : Option R} (h : bothO a b = some r) : a = some r ∧ b = some r := by
 unfold bothO at h
 split at h
 ·rename_i he; exact ⟨h, by rw [← he]; exact h⟩
 ·cases h
theorem planT_sound (hC : CallsOk C C') (hK : ∀ s, K s = some r → K' (eS s)) : ∀ (p : Plan) {s : TS}, planT T C gz ops K p s = some r → AX.planK T C' ops K' p (eS s)
 | .fin, s, h => hK _ h
 | .br e pr rc fs sub alt, s, h => by
  have step : ∀ {s : TS}, (match ops[e]? with
    | some o => gstepT T C gz ops o (fun s1 => seqU (rcT T C ops rc s1) (flT T C gz ops fs (planT T C gz ops K sub) s1)) s
    | none => none) = some r → (match ops[e]? with
    | some o => AX.gstep T C' ops o (AX.rfK T C' ops rc fs (AX.planK T C' ops K' sub)) (eS s)
    | none => False) := by
   intro s h
   split at h
   ·rename_i o ho
    refine gstepT_sound hC (fun s h => ?_) h
    obtain ⟨h1, h2⟩ := seqU_some h
    exact ⟨rcT_sound hC rc h1, flT_sound hC fs (fun s h => planT_sound hC hK sub h) h2⟩
   ·cases h
  unfold planT at h
  unfold AX.planK
  split at h
  ·exact ⟨step h, trivial⟩
  ·rename_i hn
   obtain ⟨h1, h2⟩ := bothO_some h
   refine ⟨step h1, ?_⟩
   split
   ·trivial
   ·exact planT_sound hC hK alt h2
theorem setBT_e (s : TS) (c : Operand) (b : Bool) : setB (eS s) c b = eS (setBT s c b) := by
 cases c with
 | tmp t => exact setE_e t (.b b)
 | _ => rfl
def midQ (id : Nat) (G : St → Prop) (Q' : AQ) : AQ
 | .normal, st => G st
 | .exit id', st => if id' = id then G st else Q' (.exit id') st
 | .ret, st => Q' .ret st
theorem tev_sound {pl : Nat → List Nat × Plan} {N : Nat} {iv : Nat → Option SPat} (hT : LayOk P T) (hC' : CSound P C') (hm : P.follows .mixedOrders = true) (hC : CallsOk C C') :
  ∀ (c : Code) (R : Type) (Q : AX → TS → Option R) (Q' : AQ) (s : TS) (r : R), plansOkI T pl c = true → (∀ x s, Q x s = some r → Q' x (eS s)) → tev T C pl N iv c R Q s = some r → sp P c Q' (eS s)
 | .skip, R, Q, Q', s, r, _, hQ, h => sp_skip (hQ _ _ h)
 | .region id ops false, R, Q, Q', s, r, _, hQ, h => AX.sp_regionX hT hC' (topsT_sound hC _ (hQ .normal) h)
 | .region id ops true, R, Q, Q', s, r, hp, hQ, h => AX.sp_draw hT hC' hm hp (flT_sound hC _ (fun s h => planT_sound hC (hQ .normal) _ h) h)
 | .seq x y, R, Q, Q', s, r, hp, hQ, h => by
  simp only [plansOkI, Bool.and_eq_true] at hp
  unfold tev at h
  split at h
  ·rename_i p hi
   have hx : ∀ z, tev T C pl N iv x (p.Den ⊕ R) (thenJ (takeS N p fun z => some (.inl z)) Q) s = some z → (∀ z', z = .inl z' → tev T C pl N iv y R Q (encS N p z') = some r) → (∀ r', z = .inr r' → r' = r) →
     sp P x (thenQ (fun st => gK (fun st => ∃ z', st = eS (encS N p z') ∧ tev T C pl N iv y R Q (encS N p z') = some r) st) Q') (eS s) := by
    intro z hz h1 h2
    refine tev_sound hT hC' hm hC x _ _ _ s z hp.1 (fun e s' hq => ?_) hz
    cases e with
    | normal =>
     refine takeS_sound hq fun z' hz' => ?_
     simp only [Option.some.injEq] at hz'
     exact ⟨z', rfl, h1 z' hz'.symm⟩
    | exit id =>
     obtain ⟨r', hr, hq'⟩ := mapR_some hq
     rw [h2 r' hr] at hq'
     exact hQ _ _ hq'
    | ret =>
     obtain ⟨r', hr, hq'⟩ := mapR_some hq
     rw [h2 r' hr] at hq'
     exact hQ _ _ hq'
   have hx' : sp P x (thenQ (fun st => gK (fun st => ∃ z', st = eS (encS N p z') ∧ tev T C pl N iv y R Q (encS N p z') = some r) st) Q') (eS s) := by
    rcases bindE_some h with ⟨z, h1, h2⟩ | h1
    ·exact hx _ h1 (fun z' hz => by cases hz; exact h2) (fun r' hr => by cases hr)
    ·exact hx _ h1 (fun z' hz => by cases hz) (fun r' hr => by cases hr; rfl)
   refine sp_seq (sp_mono hx' fun e st hq => ?_)
   cases e with
   | normal =>
    refine sp_ghost (gK_mono hq ?_)
    rintro st ⟨z', rfl, h3⟩
    exact tev_sound hT hC' hm hC y _ _ _ _ _ hp.2 hQ h3
   | _ => exact hq
  ·refine sp_seq (tev_sound hT hC' hm hC x _ _ _ _ _ hp.1 (fun e s' hq => ?_) h)
   cases e with
   | normal => exact tev_sound hT hC' hm hC y _ _ _ _ _ hp.2 hQ hq
   | exit id => exact hQ _ _ hq
   | ret => exact hQ _ _ hq
 | .cond c x y, R, Q, Q', s, r, hp, hQ, h => by
  simp only [plansOkI, Bool.and_eq_true] at hp
  unfold tev at h
  split at h
  ·rename_i t hv
   have hc : AM.ev (eS s).env c = .b t := by rw [e_evT, hv]; rfl
   refine sp_cond hc (fun ht => ?_) (fun ht => ?_)
   ·subst ht
    have := tev_sound hT hC' hm hC x _ _ _ _ _ hp.1 hQ h
    rw [← setBT_e, setB_same hc] at this
    exact this
   ·subst ht
    have := tev_sound hT hC' hm hC y _ _ _ _ _ hp.2 hQ h
    rw [← setBT_e, setB_same hc] at this
    exact this
  ·cases h
 | .block id c, R, Q, Q', s, r, hp, hQ, h => by
  have hp : plansOkI T pl c = true := hp
  unfold tev at h
  split at h
  ·rename_i p hi
   have hx : ∀ z, tev T C pl N iv c (p.Den ⊕ R) (blockJ id (takeS N p fun z => some (.inl z)) Q) s = some z → (∀ z', z = .inl z' → Q .normal (encS N p z') = some r) → (∀ r', z = .inr r' → r' = r) →
     sp P c (midQ id (gK fun st => ∃ z', st = eS (encS N p z') ∧ Q .normal (encS N p z') = some r) Q') (eS s) := by
    intro z hz h1 h2
    refine tev_sound hT hC' hm hC c _ _ _ s z hp (fun e s' hq => ?_) hz
    have hn : ∀ {s'}, takeS N p (fun z => some (Sum.inl z)) s' = some z → gK (fun st => ∃ z', st = eS (encS N p z') ∧ Q .normal (encS N p z') = some r) (eS s') := by
     intro s' hq
     refine takeS_sound hq fun z' hz' => ?_
     simp only [Option.some.injEq] at hz'
     exact ⟨z', rfl, h1 z' hz'.symm⟩
    cases e with
    | normal => exact hn hq
    | exit id' =>
     simp only [blockJ] at hq
     cases hid : id' == id with
     | true =>
      rw [hid, cond_true] at hq
      simp only [midQ, eq_of_beq hid, if_true]
      exact hn hq
     | false =>
      rw [hid, cond_false] at hq
      obtain ⟨r', hr, hq'⟩ := mapR_some hq
      rw [h2 r' hr] at hq'
      have : ¬ id' = id := by simpa using hid
      simp only [midQ, this, if_false]
      exact hQ _ _ hq'
    | ret =>
     obtain ⟨r', hr, hq'⟩ := mapR_some hq
     rw [h2 r' hr] at hq'
     exact hQ _ _ hq'
   have hx' : sp P c (midQ id (gK fun st => ∃ z', st = eS (encS N p z') ∧ Q .normal (encS N p z') = some r) Q') (eS s) := by
    rcases bindE_some h with ⟨z, h1, h2⟩ | h1
    ·exact hx _ h1 (fun z' hz => by cases hz; exact h2) (fun r' hr => by cases hr)
    ·exact hx _ h1 (fun z' hz => by cases hz) (fun r' hr => by cases hr; rfl)
   have hg : ∀ {st}, gK (fun st => ∃ z', st = eS (encS N p z') ∧ Q .normal (encS N p z') = some r) st → gK (Q' .normal) st := fun hq => gK_mono hq fun st ⟨z', h1, h2⟩ => by rw [h1]; exact hQ _ _ h2
   have hx2 : sp P c (blockQ id fun e st => match e with | .normal => gK (Q' .normal) st | e => Q' e st) (eS s) := by
    refine sp_mono hx' fun e st hq => ?_
    cases e with
    | normal => exact hg hq
    | exit id' =>
     simp only [midQ, blockQ] at hq ⊢
     by_cases hid : id' = id
     ·rw [if_pos hid] at hq ⊢; exact hg hq
     ·rw [if_neg hid] at hq ⊢; exact hq
    | ret => exact hq
   intro w0 w L a G hs
   refine wp_mono (sp_block hx2 w0 w L a G hs) fun e a' w' hq => ?_
   cases e with
   | normal => exact Nx.gK hq
   | _ => exact hq
  ·refine sp_block (tev_sound hT hC' hm hC c _ _ _ _ _ hp (fun e s' hq => ?_) h)
   cases e with
   | normal => exact hQ _ _ hq
   | exit id' =>
    simp only [blockT] at hq
    simp only [blockQ]
    cases hid : id' == id with
    | true => rw [hid, cond_true] at hq; rw [if_pos (eq_of_beq hid)]; exact hQ _ _ hq
    | false => rw [hid, cond_false] at hq; rw [if_neg (by simpa using hid)]; exact hQ _ _ hq
   | ret => exact hQ _ _ hq
 | .loop c, R, Q, Q', s, r, hp, hQ, h => by
  have hp : plansOkI T pl c = true := hp
  unfold tev at h
  split at h
  ·rename_i p hi
   let f : p.Den → Option (p.Den ⊕ R) := fun x => tev T C pl N iv c (p.Den ⊕ R) (thenJ (takeS N p fun z => some (.inl z)) Q) (encS N p x)
   let J : Nat → St → Prop := fun n st => ∃ x, st = eS (encS N p x) ∧ whileN f n x = some r
   refine sp_loopN J (takeS_sound h fun x hx => ?_) ?_
   ·obtain ⟨n, hn⟩ := whileO_some hx
    exact ⟨n, x, rfl, hn⟩
   ·rintro n st ⟨x, rfl, hn⟩
    cases n with
    | zero => cases hn
    | succ n =>
     simp only [whileN] at hn
     have hb : ∀ z, f x = some z → (∀ z', z = .inl z' → whileN f n z' = some r) → (∀ r', z = .inr r' → r' = r) →
       sp P c (thenQ (gK fun s' => ∃ n', n' < n + 1 ∧ J n' s') Q') (eS (encS N p x)) := by
      intro z hz h1 h2
      refine tev_sound hT hC' hm hC c _ _ _ _ z hp (fun e s' hq => ?_) hz
      cases e with
      | normal =>
       refine takeS_sound hq fun z' hz' => ?_
       simp only [Option.some.injEq] at hz'
       exact ⟨n, Nat.lt_succ_self n, z', rfl, h1 z' hz'.symm⟩
      | exit id =>
       obtain ⟨r', hr, hq'⟩ := mapR_some hq
       rw [h2 r' hr] at hq'
       exact hQ _ _ hq'
      | ret =>
       obtain ⟨r', hr, hq'⟩ := mapR_some hq
       rw [h2 r' hr] at hq'
       exact hQ _ _ hq'
     split at hn
     ·rename_i x' hx'
      exact hb _ hx' (fun z' hz => by cases hz; exact hn) (fun r' hr => by cases hr)
     ·rename_i y hy
      simp only [Option.some.injEq] at hn
      exact hb _ hy (fun z' hz => by cases hz) (fun r' hr => by cases hr; exact hn)
     ·cases hn
  ·cases h
 | .exit id, R, Q, Q', s, r, _, hQ, h => sp_exit (hQ _ _ h)
 | .ret, R, Q, Q', s, r, _, hQ, h => sp_ret (hQ _ _ h)
 | .rangeFunc .., _, _, _, _, _, _, _, h => by simp only [tev] at h; cases h
 | .scope _, _, _, _, _, _, _, _, h => by simp only [tev] at h; cases h
 | .label _, _, _, _, _, _, _, _, h => by simp only [tev] at h; cases h
 | .goto _, _, _, _, _, _, _, _, h => by simp only [tev] at h; cases h
 | .refuse _, _, _, _, _, _, _, _, h => by simp only [tev] at h; cases h
end
end Go.TM
end
section
namespace Go.TM
open Go.AM
mutual
def renV (σ : Nat → Nat) : V → V
 | .ar n => .ar (σ n)
 | .p n i off => .p (σ n) i off
 | .fn f caps => .fn f (renVL σ caps)
 | .agg cs => .agg (renVL σ cs)
 | .tup cs => .tup (renVL σ cs)
 | .u => .u
 | .sk => .sk
 | .i k n => .i k n
 | .b x => .b x
 | .s x => .s x
 | .sl t r => .sl t r
 | .own t d r => .own t d r
 | .emp t => .emp t
 | .ro c => .ro c
 | .nilp => .nilp
 | .nil => .nil
def renVL (σ : Nat → Nat) : List V → List V
 | [] => []
 | x :: l => renV σ x :: renVL σ l
end
def renO (σ : Nat → Nat) : TO → TO
 | .box n cs => .box (σ n) (renVL σ cs)
 | .arr n t d l => .arr (σ n) t d l
def renOs (σ : Nat → Nat) : List TO → List TO
 | [] => []
 | x :: l => renO σ x :: renOs σ l
mutual
def closedV (ns : List Nat) : V → Bool
 | .ar n => ns.contains n
 | .p n _ _ => ns.contains n
 | .fn _ caps => closedVL ns caps
 | .agg cs => closedVL ns cs
 | .tup cs => closedVL ns cs
 | _ => true
def closedVL (ns : List Nat) : List V → Bool
 | [] => true
 | x :: l => closedV ns x && closedVL ns l
end
def closedOs (ns : List Nat) : List TO → Bool
 | [] => true
 | x :: l => (match x with | .box _ cs => closedVL ns cs | .arr _ _ _ _ => true) && closedOs ns l
def namesT : List TO → List Nat
 | [] => []
 | x :: l => x.name :: namesT l
def selT : List Nat → List TO → Option (List TO)
 | [], _ => some []
 | n :: ns, l => match getT l n, selT ns l with
  | some x, some xs => some (x :: xs)
  | _, _ => none
def remT (o : Nat) : List TO → List TO
 | [] => []
 | x :: l => bif x.name == o then l else x :: remT o l
def remsT : List Nat → List TO → List TO
 | [], l => l
 | o :: ns, l => remsT ns (remT o l)
def killAllT : List Nat → TS → TS
 | [], s => s
 | o :: l, s => killAllT l (killT o s)
def followX (ob : List Ob) : SV → List Nat → Option Nat
 | .p o _ _, [] => some o
 | .ar o, [] => some o
 | .p o i off, c :: cs => match getOb ob o with
  | some x => match x.rows[i]? with
   | some row => followX ob (lkp row (off + c)) cs
   | none => none
  | none => none
 | .agg row, c :: cs => followX ob (lkp row c) cs
 | .fn _ row, c :: cs => followX ob (lkp row c) cs
 | _, _ => none
def locsX : List (Nat × List Nat) → List SV → List Ob → Option (List Nat)
 | [], _, _ => some []
 | p :: l, args, ob => match followX ob (lkp args p.1) p.2, locsX l args ob with
  | some n, some ns => some (n :: ns)
  | _, _ => none
def followT (ob : List TO) : V → List Nat → Option Nat
 | .p o _ _, [] => some o
 | .ar o, [] => some o
 | .p o i off, c :: cs => match getT ob o with
  | some (.box _ row) => (match i with
   | 0 => followT ob (lkV row (off + c)) cs
   | _ + 1 => none)
  | _ => none
 | .agg row, c :: cs => followT ob (lkV row c) cs
 | .fn _ row, c :: cs => followT ob (lkV row c) cs
 | _, _ => none
def locsT : List (Nat × List Nat) → List V → List TO → Option (List Nat)
 | [], _, _ => some []
 | p :: l, args, ob => match followT ob (lkV args p.1) p.2, locsT l args ob with
  | some n, some ns => some (n :: ns)
  | _, _ => none
def arsT (ns : List Nat) : List V → List Nat
 | [] => []
 | .ar o :: l => bif ns.contains o then arsT ns l else o :: arsT (o :: ns) l
 | _ :: l => arsT ns l
def frzTTL (s : TS) : List Operand → TS
 | [] => s
 | x :: l => frzTTL (frzTT s x) l
mutual
def brwV (ob : List TO) : V → V
 | .own g _ l => .sl g l
 | .emp g => .sl g []
 | .ar o => match getT ob o with
  | some (.arr _ g _ l) => .sl g l
  | _ => .u
 | .agg cs => .agg (brwVL ob cs)
 | .tup cs => .tup (brwVL ob cs)
 | v => v
def brwVL (ob : List TO) : List V → List V
 | [] => []
 | x :: l => brwV ob x :: brwVL ob l
end
mutual
def flatVV : V → Bool
 | .i _ _ => true
 | .b _ => true
 | .s _ => true
 | .agg cs => flatVVL cs
 | .tup cs => flatVVL cs
 | _ => false
def flatVVL : List V → Bool
 | [] => true
 | x :: l => flatVV x && flatVVL l
end
section
variable {σ : Nat → Nat}
mutual
theorem ren_e : ∀ v : V, ren σ (e v) = e (renV σ v)
 | .ar _ | .p _ _ _ | .u | .sk | .i _ _ | .b _ | .s _ | .sl _ _ | .own _ _ _ | .emp _ | .ro _ | .nilp | .nil => rfl
 | .fn f c => by simp only [e, ren, renV, renL_e c]
 | .agg c => by simp only [e, ren, renV, renL_e c]
 | .tup c => by simp only [e, ren, renV, renL_e c]
theorem renL_e : ∀ l : List V, renL σ (eL l) = eL (renVL σ l)
 | [] => rfl
 | x :: l => by simp only [eL, renL, renVL, ren_e x, renL_e l]
end
theorem renVL_length : ∀ l : List V, (renVL σ l).length = l.length
 | [] => rfl
 | x :: l => by simp only [renVL, List.length_cons, renVL_length l]
theorem renO_e (x : TO) : renOb σ (eO x) = eO (renO σ x) := by
 cases x with
 | box n cs => simp only [eO, renOb, renO, if_true, renRows, renL_e, renVL_length]
 | arr n t d l => simp only [eO, renOb, renO, Bool.false_eq_true, if_false]
theorem renOs_e : ∀ l : List TO, renObs σ (eOs l) = eOs (renOs σ l)
 | [] => rfl
 | x :: l => by simp only [eOs, renObs, renOs, renO_e, renOs_e l]
mutual
theorem closed_e (ns : List Nat) : ∀ v : V, closed ns (e v) = closedV ns v
 | .ar _ | .p _ _ _ | .u | .sk | .i _ _ | .b _ | .s _ | .sl _ _ | .own _ _ _ | .emp _ | .ro _ | .nilp | .nil => rfl
 | .fn f c => by simp only [e, closed, closedV, closedL_e ns c]
 | .agg c => by simp only [e, closed, closedV, closedL_e ns c]
 | .tup c => by simp only [e, closed, closedV, closedL_e ns c]
theorem closedL_e (ns : List Nat) : ∀ l : List V, closedL ns (eL l) = closedVL ns l
 | [] => rfl
 | x :: l => by simp only [eL, closedL, closedVL, closed_e ns x, closedL_e ns l]
end
theorem closedOs_e (ns : List Nat) : ∀ l : List TO, closedObs ns (eOs l) = closedOs ns l
 | [] => rfl
 | x :: l => by
  simp only [eOs, closedObs, closedOs, closedOs_e ns l]
  cases x with
  | box n cs => simp only [eO, if_true, closedRows, closedL_e, Bool.and_true]
  | arr n t d l => simp only [eO, Bool.false_eq_true, if_false]
theorem names_e : ∀ l : List TO, names (eOs l) = namesT l
 | [] => rfl
 | x :: l => by
  have := names_e l
  simp only [names] at this
  simp only [eOs, names, namesT, List.map_cons, this, eO_name]
theorem selT_e : ∀ (ns : List Nat) (l : List TO) (xs : List TO), selT ns l = some xs → selOb ns (eOs l) = some (eOs xs)
 | [], l, xs, h => by simp only [selT, Option.some.injEq] at h; subst h; rfl
 | n :: ns, l, xs, h => by
  simp only [selT] at h
  split at h
  ·rename_i x xs' hx hxs
   simp only [Option.some.injEq] at h
   subst h
   simp only [selOb, getOb_e, hx, Option.map_some, selT_e ns l xs' hxs, eOs]
  ·cases h
theorem remT_e (o : Nat) : ∀ l : List TO, remOb o (eOs l) = eOs (remT o l)
 | [] => rfl
 | x :: l => by
  simp only [eOs, remOb, remT, eO_name]
  by_cases h : x.name = o
  ·simp [h]
  ·have h' : (x.name == o) = false := by simpa using h
   simp only [h, if_false, h', cond_false, eOs, remT_e o l]
theorem remsT_e : ∀ (ns : List Nat) (l : List TO), remObs ns (eOs l) = eOs (remsT ns l)
 | [], _ => rfl
 | o :: ns, l => by simp only [remObs, remsT, remT_e, remsT_e ns]
theorem killAllT_e : ∀ (ns : List Nat) (s : TS), killAll ns (eS s) = eS (killAllT ns s)
 | [], _ => rfl
 | o :: ns, s => by simp only [killAll, killAllT, killSt_e, killAllT_e ns]
theorem followT_e {ob : List TO} : ∀ (cs : List Nat) (v : V) (n : Nat), followT ob v cs = some n → followX (eOs ob) (e v) cs = some n
 | [], v, n, h => by
  cases v <;> simp only [followT] at h <;> first | exact h | cases h
 | c :: cs, v, n, h => by
  cases v <;> simp only [followT] at h <;> try (cases h; done)
  case p o i off =>
   split at h
   ·rename_i m row hg
    cases i with
    | succ i => cases h
    | zero =>
     simp only at h
     simp only [e, followX, getOb_e, hg, Option.map_some, eO, List.getElem?_cons_zero, ← e_lkV]
     exact followT_e cs _ _ h
   ·cases h
  case agg row => simp only [e, followX, ← e_lkV]; exact followT_e cs _ _ h
  case fn f row => simp only [e, followX, ← e_lkV]; exact followT_e cs _ _ h
theorem locsT_e {ob : List TO} {args : List V} : ∀ (ps : List (Nat × List Nat)) (ns : List Nat), locsT ps args ob = some ns → locsX ps (eL args) (eOs ob) = some ns
 | [], ns, h => h
 | p :: ps, ns, h => by
  simp only [locsT] at h
  split at h
  ·rename_i n ns' h1 h2
   simp only [locsX, ← e_lkV, followT_e _ _ _ h1, locsT_e ps ns' h2]
   exact h
  ·cases h
theorem arsT_e : ∀ (l : List V) (ns : List Nat), arsIn ns (eL l) = arsT ns l
 | [], _ => rfl
 | x :: l, ns => by
  cases x with
  | ar o => simp only [eL, e, arsIn, arsT, arsT_e l]
  | _ => simp only [eL, e, arsIn, arsT, arsT_e l]
theorem frzTTL_e : ∀ (l : List Operand) (s : TS), frzTL (eS s) l = eS (frzTTL s l)
 | [], _ => rfl
 | x :: l, s => by simp only [frzTL, frzTTL, frzT_e, frzTTL_e l]
mutual
theorem brw_e {ob : List TO} : ∀ v : V, brw (eOs ob) (e v) = e (brwV ob v)
 | .own g d l => by simp only [e, brw, brwV, frzRR_enc]
 | .emp g => rfl
 | .ar o => by
  simp only [e, brw, brwV, getOb_e]
  cases getT ob o with
  | none => rfl
  | some x =>
   cases x with
   | box n cs => simp only [Option.map_some, eO, e]
   | arr n g d l => simp only [Option.map_some, eO, e, frzRR_enc]
 | .agg cs => by simp only [e, brw, brwV, brwL_e cs]
 | .tup cs => by simp only [e, brw, brwV, brwL_e cs]
 | .u | .sk | .i _ _ | .b _ | .s _ | .sl _ _ | .p _ _ _ | .ro _ | .nilp | .nil | .fn _ _ => rfl
theorem brwL_e {ob : List TO} : ∀ l : List V, brwL (eOs ob) (eL l) = eL (brwVL ob l)
 | [] => rfl
 | x :: l => by simp only [eL, brwL, brwVL, brw_e x, brwL_e l]
end
mutual
theorem flatV_e : ∀ v : V, flatV (e v) = flatVV v
 | .agg c => by simp only [e, flatV, flatVV, flatVL_e c]
 | .tup c => by simp only [e, flatV, flatVV, flatVL_e c]
 | .ar _ | .p _ _ _ | .u | .sk | .i _ _ | .b _ | .s _ | .sl _ _ | .own _ _ _ | .emp _ | .ro _ | .nilp | .nil | .fn _ _ => rfl
theorem flatVL_e : ∀ l : List V, flatVL (eL l) = flatVVL l
 | [] => rfl
 | x :: l => by simp only [eL, flatVL, flatVVL, flatV_e x, flatVL_e l]
end
theorem evTL_evs {s : TS} : ∀ xs : List Operand, evs (eS s).env xs = eL (evTL s xs)
 | [] => rfl
 | x :: l => by simp only [evs, evTL, eL, e_evT, evTL_evs l]
end
structure TEnt where
 fid : Nat
 pure : Bool
 ps : List (Nat × List Nat)
 inS : SPat
 Y : Type
 F : inS.Den → Option Y
 res : Y → Option (V × List TO)
def headA : List (Nat × Pat) → List V → List V
 | [], _ => []
 | _ :: l, vs => match vs with
  | v :: vs => v :: headA l vs
  | [] => []
def argsOf (p : SPat) (x : p.Den) : List V := headA p.al (encP p.pat x)
def obsOf (p : SPat) (x : p.Den) : List TO := mkO p.ob (restA p.al (encP p.pat x))
def TEnt.W (en : TEnt) : WP := fun args ob K => ∃ x y v obs, wkL args (eL (argsOf en.inS x)) ∧ wkObs ob (eOs (obsOf en.inS x)) ∧ en.F x = some y ∧ en.res y = some (v, obs) ∧ K (e v) (eOs obs)
def TEnt.ent (en : TEnt) : Ent := ⟨en.pure, locsX en.ps, en.W⟩
section
variable {R : Type}
def ofOs : List TO → List V
 | [] => []
 | x :: l => ofO (some x) :: ofOs l
def eqNs : List Nat → List Nat → Bool
 | [], [] => true
 | a :: l, b :: m => a == b && eqNs l m
 | _, _ => false
def decIn (p : SPat) (args : List V) (obs : List TO) (K : p.Den → Option R) : Option R :=
 chkO (okA p.al && args.length == p.al.length && eqNs (namesT obs) (namesP p.ob)) (decP true p.pat (args ++ ofOs obs) fun x q => endT q (K x))
def resGo (en : TEnt) (y : en.Y) (K : V → List TO → Option R) : Option R := match en.res y with
 | some (v, obs) => K v obs
 | none => none
def frzArLT : List Nat → (TS → Option R) → TS → Option R
 | [], K, s => K s
 | o :: l, K, s => frzArT s o (frzArLT l K)
def callOkT (σ : Nat → Nat) (old : List Nat) (obs : List TO) (v : V) : Bool :=
 subL old (namesT obs) && noDup ((namesT obs).map σ) && closedV (namesT obs) v && closedOs (namesT obs) obs && allLt (newNames σ old (namesT obs))
def afterT (σ : Nat → Nat) (old : List Nat) (s : TS) (obs : List TO) (v : V) (d : Option Tmp) : TS :=
 setDT ⟨s.n, (killAllT (newNames σ old (namesT obs)) ⟨s.n, s.al, remsT (old.map σ) s.ob⟩).al, renOs σ obs ++ (killAllT (newNames σ old (namesT obs)) ⟨s.n, s.al, remsT (old.map σ) s.ob⟩).ob⟩ d (renV σ v)
def goT (ns : List Nat) (d : Option Tmp) (K : TS → Option R) (s : TS) (v : V) (obs : List TO) : Option R :=
 chkO (callOkT (outN (slotOf d) 100000 ns) (cNames 100000 ns) obs v) (K (afterT (outN (slotOf d) 100000 ns) (cNames 100000 ns) s obs v d))
def callWT (en : TEnt) (ns : List Nat) (xs : List Operand) (caps : List V) (d : Option Tmp) (K : TS → Option R) (s : TS) : Option R := match selT ns s.ob with
 | some obs => chkO (noDup ns && closedVL ns (evTL s xs ++ caps) && closedOs ns obs && !hasOwnVL (evTL s xs))
   (decIn en.inS (renVL (inN 100000 ns) (evTL s xs ++ caps)) (renOs (inN 100000 ns) obs) fun x => bindO (en.F x) fun y => resGo en y (goT ns d K s))
 | none => none
def callF1T (en : TEnt) (ns : List Nat) (n : Nat) (f : Operand) (xs : List Operand) (d : Option Tmp) (K : TS → Option R) (s : TS) : Option R := match evT s f with
 | .fn n' caps => chkO (n' == n) (callWT en ns xs caps d K s)
 | _ => none
def callET (en : TEnt) (n : Nat) (caps : List V) (f : Operand) (xs : List Operand) (d : Option Tmp) (K : TS → Option R) (s : TS) : Option R :=
 match locsT en.ps (evTL s xs ++ caps) s.ob with
 | some ns => frzArLT (arsT ns (evTL s xs ++ caps)) (callF1T en ns n f xs d K) s
 | none => none
end
def vkey (n : Nat) : List V → Nat
 | [] => n
 | v :: l => match v with
  | .fn m _ => n + 1000 * (m + 1)
  | _ => vkey n l
def callTT (tbl : Nat → Option TEnt) : TCalls := fun _ f xs d s K => match evT s f with
 | .fn n caps => match tbl (vkey n (evTL s xs ++ caps)) with
  | some en => chkO (en.fid == n) (match en.pure with
   | true => decIn en.inS (brwVL s.ob (evTL s xs ++ caps)) [] fun x => bindO (en.F x) fun y => resGo en y fun v _ => chkO (flatVV v) (K (setDT s d v))
   | false => callET en n caps f xs d K (frzTTL s xs))
  | none => none
 | _ => none
def TbOk (P : Program) (tbl : Nat → Option TEnt) : Prop := ∀ k en, tbl k = some en → CtrOk P en.fid en.W
def CallV (P : Program) : CallP := fun f xs d st K => ∃ tb, TblOk P tb ∧ CallT tb f xs d st K
theorem CallV.sound {P : Program} : CSound P (CallV P) := fun o c f a w0 w L st G K Q ho hc hk h => by
 obtain ⟨tb, h1, h2⟩ := hk
 exact CallT.sound h1 o c f a w0 w L st G K Q ho hc h2 h
def tbOne (n : Nat) (en : Ent) : Nat → Option Ent := ins n en tbl0
end Go.TM
end
section
namespace Go.TM
open Go.AM
section
variable {P : Program} {R : Type} {T : Nat → TI} {s : TS} {K : TS → Option R} {K' : St → Prop} {r : R}
theorem namesT_ofOs_wk : ∀ (l : List OPat) (obs : List TO) (x : (chainO l).Den), eqNs (namesT obs) (namesP l) = true → wkL (eL (ofOs obs)) (eL (encP (chainO l) x)) → wkObs (eOs obs) (eOs (mkO l (encP (chainO l) x)))
 | [], [], x, _, _ => rfl
 | [], _ :: _, x, h, _ => by simp [namesT, namesP, eqNs] at h
 | _ :: _, [], x, h, _ => by simp [namesT, namesP, eqNs] at h
 | o :: l, t :: obs, x, hn, h => by
  simp only [namesT, namesP, eqNs, Bool.and_eq_true, beq_iff_eq] at hn
  simp only [chainO, encP, ofOs, eL] at h ⊢
  generalize hx : fstD o.pat.cst (chainO l).cst o.pat.dflt x = x1 at h ⊢
  generalize hy : sndD o.pat.cst (chainO l).cst (chainO l).dflt x = y1 at h ⊢
  cases o with
  | box n p =>
   have h' : wkL (e (ofO (some t)) :: eL (ofOs obs)) (SV.agg (eL (encP p x1)) :: eL (encP (chainO l) y1)) := h
   obtain ⟨h1, h2⟩ := wkL_cons h'
   have h3 := namesT_ofOs_wk l obs y1 hn.2 h2
   cases t with
   | arr m t d l => simp [ofO, e, wk] at h1
   | box m cs =>
    have h1 : wkL (eL cs) (eL (encP p x1)) := h1
    have hl := wkL_length h1
    simp only [eL_length] at hl
    exact ⟨hn.1, hl, rfl, ⟨h1, rfl⟩, h3⟩
  | arr n g d =>
   have h' : wkL (e (ofO (some t)) :: eL (ofOs obs)) (SV.own g.sz ((x1 : List g.Den).map (encC d g)) :: eL (encP (chainO l) y1)) := h
   obtain ⟨h1, h2⟩ := wkL_cons h'
   have h3 := namesT_ofOs_wk l obs y1 hn.2 h2
   cases t with
   | box m cs => simp [ofO, e, wk] at h1
   | arr m g' d' l' =>
    simp only [ofO, e, wk, SV.own.injEq] at h1
    have key : wkRows (l'.map (encC d' g')) ((x1 : List g.Den).map (encC d g)) := by rw [h1.2]; exact wkRows_refl _
    exact ⟨hn.1, h1.1, rfl, key, h3⟩
theorem args_wk {rest : List V} {q : Pat} : ∀ (l : List (Nat × Pat)) (args : List V) (x : (chainA l q).Den), okA l = true → args.length = l.length → wkL (eL (args ++ rest)) (eL (encP (chainA l q) x)) →
  wkL (eL args) (eL (headA l (encP (chainA l q) x))) ∧ ∃ y : q.Den, restA l (encP (chainA l q) x) = encP q y ∧ wkL (eL rest) (eL (encP q y))
 | [], [], x, _, _, h => ⟨rfl, x, rfl, h⟩
 | [], _ :: _, x, _, hl, _ => by simp at hl
 | _ :: _, [], x, _, hl, _ => by simp at hl
 | p :: l, a :: args, x, ho, hl, h => by
  simp only [okA, Bool.and_eq_true] at ho
  simp only [chainA, encP] at h ⊢
  generalize hx : fstD p.2.cst (chainA l q).cst p.2.dflt x = x1 at h ⊢
  generalize hy : sndD p.2.cst (chainA l q).cst (chainA l q).dflt x = y1 at h ⊢
  obtain ⟨v, hv⟩ := enc_one p.2 (fun q q' hq => by rw [hq] at ho; cases ho.1) (fun hq => by rw [hq] at ho; cases ho.1) x1
  rw [hv] at h ⊢
  simp only [List.cons_append, List.nil_append, eL] at h ⊢
  obtain ⟨h1, h2⟩ := wkL_cons h
  obtain ⟨h3, y, h4, h5⟩ := args_wk l args y1 ho.2 (by simpa using hl) h2
  exact ⟨⟨h1, h3⟩, y, h4, h5⟩
theorem decIn_sound {p : SPat} {args : List V} {obs : List TO} {K : p.Den → Option R} (h : decIn p args obs K = some r) :
  ∃ x, K x = some r ∧ wkL (eL args) (eL (argsOf p x)) ∧ wkObs (eOs obs) (eOs (obsOf p x)) := by
 obtain ⟨h0, h1⟩ := chkO_some h
 simp only [Bool.and_eq_true] at h0
 obtain ⟨x, cs, rest, h2, h3, h4, _⟩ := decP_wk p.pat true _ _ h1
 obtain ⟨rfl, h5⟩ := endT_some h2
 rw [List.append_nil] at h3
 subst h3
 obtain ⟨h6, y, h7, h8⟩ := args_wk p.al args x h0.1.1 (eq_of_beq h0.1.2) h4
 refine ⟨x, h5, h6, ?_⟩
 show wkObs (eOs obs) (eOs (mkO p.ob (restA p.al (encP (chainA p.al (chainO p.ob)) x))))
 rw [h7]
 exact namesT_ofOs_wk p.ob obs y h0.2 h8
theorem resGo_some {en : TEnt} {y : en.Y} {K : V → List TO → Option R} (h : resGo en y K = some r) : ∃ v obs, en.res y = some (v, obs) ∧ K v obs = some r := by
 unfold resGo at h
 split at h
 ·exact ⟨_, _, by assumption, h⟩
 ·cases h
theorem eOs_append : ∀ a b : List TO, eOs (a ++ b) = eOs a ++ eOs b
 | [], _ => rfl
 | x :: a, b => by simp only [List.cons_append, eOs, eOs_append a b]
theorem killAllT_n : ∀ (ns : List Nat) (s : TS), (killAllT ns s).n = s.n
 | [], _ => rfl
 | o :: ns, s => by simp only [killAllT, killAllT_n ns]; rfl
theorem goT_sound {ns : List Nat} {d : Option Tmp} {v : V} {obs : List TO} (hK : ∀ s, K s = some r → K' (eS s)) (h : goT ns d K s v obs = some r) : goOn ns d K' (eS s) (e v) (eOs obs) := by
 obtain ⟨h1, h2⟩ := chkO_some h
 unfold goOn
 refine chk_mk ?_ ?_
 ·unfold callOk
  unfold callOkT at h1
  rw [names_e, closed_e, closedOs_e]
  exact h1
 ·have he : afterCall (outN (slotOf d) 100000 ns) (cNames 100000 ns) (eS s) (eOs obs) (e v) d = eS (afterT (outN (slotOf d) 100000 ns) (cNames 100000 ns) s obs v d) := by
   unfold afterCall afterT
   rw [ren_e, names_e]
   have h3 : (⟨(eS s).env, remObs ((cNames 100000 ns).map (outN (slotOf d) 100000 ns)) (eS s).ob⟩ : St) = eS ⟨s.n, s.al, remsT ((cNames 100000 ns).map (outN (slotOf d) 100000 ns)) s.ob⟩ := by
    simp only [eS, remsT_e]
   rw [h3, killAllT_e, ← setD_e]
   congr 1
   simp only [eS, renOs_e, eOs_append, killAllT_n]
  rw [he]
  exact hK _ h2
theorem callWT_sound {en : TEnt} {ns : List Nat} {xs : List Operand} {caps : List V} {d : Option Tmp} (hK : ∀ s, K s = some r → K' (eS s)) (h : callWT en ns xs caps d K s = some r) : callW en.W ns xs (eL caps) d K' (eS s) := by
 unfold callWT at h
 unfold callW
 split at h
 ·rename_i obs hobs
  have hs : selOb ns (eS s).ob = some (eOs obs) := selT_e _ _ _ hobs
  rw [hs]
  simp only
  obtain ⟨h1, h2⟩ := chkO_some h
  rw [evTL_evs, ← eL_append, closedL_e, closedOs_e, hasOwnL_e]
  refine chk_mk h1 ?_
  obtain ⟨x, h3, h4, h5⟩ := decIn_sound h2
  obtain ⟨y, h6, h7⟩ := bindO_some h3
  obtain ⟨v, obs', h8, h9⟩ := resGo_some h7
  rw [renL_e, renOs_e]
  exact ⟨x, y, v, obs', h4, h5, h6, h8, goT_sound hK h9⟩
 ·cases h
theorem callF1T_sound {en : TEnt} {ns : List Nat} {n : Nat} {f : Operand} {xs : List Operand} {d : Option Tmp} (hK : ∀ s, K s = some r → K' (eS s)) (h : callF1T en ns n f xs d K s = some r) : callF1 en.W ns n f xs d K' (eS s) := by
 unfold callF1T at h
 unfold callF1
 rw [e_evT]
 split at h
 ·rename_i n' caps hv
  rw [hv]
  obtain ⟨h1, h2⟩ := chkO_some h
  exact chk_mk h1 (callWT_sound hK h2)
 ·cases h
theorem frzArLT_sound {Q : St → Prop} : ∀ (l : List Nat) {s : TS}, (∀ s, K s = some r → Q (eS s)) → frzArLT l K s = some r → frzArL l Q (eS s)
 | [], s, hK, h => hK _ h
 | o :: l, s, hK, h => by
  unfold frzArLT frzArT at h
  unfold frzArL frzAr
  split at h
  ·rename_i n g d l' hg
   rw [getOb_arr hg]
   refine ⟨rfl, ?_⟩
   have := frzArLT_sound l hK h
   simp only [frzRR_enc]
   simp only [eS] at this ⊢
   rw [subAr_den, show SV.sl g.sz (l'.map (encC false g)) = e (.sl g l') from rfl, subA_e, killOb_e]
   exact this
  ·cases h
theorem callTT_sound {tbl : Nat → Option TEnt} (htb : TbOk P tbl) : CallsOk (callTT tbl) (CallV P) := by
 intro R f xs d s K K' r hK h
 unfold callTT at h
 split at h
 ·rename_i n caps hv
  split at h
  ·rename_i en hen
   obtain ⟨hfid, h⟩ := chkO_some h
   have hfid := eq_of_beq hfid
   have hok := htb _ _ hen
   rw [hfid] at hok
   refine ⟨tbOne n en.ent, TblOk.ins TblOk.nil hok, ?_⟩
   unfold CallT callT
   rw [e_evT, hv]
   simp only [e]
   have ht : tbOne n en.ent n = some en.ent := by simp only [tbOne, ins, beq_self_eq_true, cond_true]
   rw [ht]
   simp only [TEnt.ent]
   split at h
   ·rename_i hp
    rw [hp]
    simp only
    rw [evTL_evs, ← eL_append]
    obtain ⟨x, h3, h4, h5⟩ := decIn_sound h
    obtain ⟨y, h6, h7⟩ := bindO_some h3
    obtain ⟨v, obs', h8, h9⟩ := resGo_some h7
    obtain ⟨h10, h11⟩ := chkO_some h9
    refine ⟨x, y, v, obs', ?_, h5, h6, h8, ?_⟩
    ·show wkL (brwL (eOs s.ob) _) _
     rw [brwL_e]; exact h4
    ·unfold goFlat
     rw [flatV_e, setD_e]
     exact chk_mk h10 (hK _ h11)
   ·rename_i hp
    rw [hp]
    simp only
    rw [frzTTL_e]
    unfold callET at h
    unfold callE
    split at h
    ·rename_i ns hns
     rw [evTL_evs, ← eL_append]
     have := locsT_e _ _ hns
     simp only [eS] at this ⊢
     rw [this]
     simp only
     rw [arsT_e]
     exact frzArLT_sound _ (fun s h => callF1T_sound hK h) h
    ·cases h
  ·cases h
 ·cases h
end
def dropOwnV : V → V
 | .own _ _ _ => .u
 | .emp _ => .u
 | v => v
def dropOwnVL : List V → List V
 | [] => []
 | x :: l => dropOwnV x :: dropOwnVL l
theorem dropOwnVL_e : ∀ l : List V, dropOwnL (eL l) = eL (dropOwnVL l)
 | [] => rfl
 | x :: l => by
  simp only [eL, dropOwnL, dropOwnVL, dropOwnVL_e l]
  congr 1
  cases x <;> rfl
section
variable {R : Type}
def loadRes (T : Nat → TI) (a t : Nat) (s : TS) (K : TS → Option R) : Option R := match lookT s a with
 | .p o i off => match getT s.ob o with
  | some (.box _ cs) => (match i with
   | 0 => chkO ((T t).known && ble (off + (T t).size) cs.length) (match hasOwnV (valV T t (dropTake off (T t).size cs)) with
    | true => chkO (isStruct T t && cells1V (dropTake off (T t).size cs)) (K (setT ⟨s.n, s.al, setBoxT s.ob o (wrV cs off (dropOwnVL (dropTake off (T t).size cs)))⟩ a (valV T t (dropTake off (T t).size cs))))
    | false => K (setT s a (valV T t (dropTake off (T t).size cs))))
   | _ + 1 => none)
  | _ => none
 | _ => none
def outT (xs : List Operand) (s : TS) (K : V → TS → Option R) : Option R := match xs with
 | [x] => K (evT s x) (stripT s x)
 | xs => K (.tup (valsT s xs)) (stripTL s xs)
def resT (T : Nat → TI) (rs : List ResultVar) (s : TS) (K : V → TS → Option R) : Option R := match rs with
 | [] => outT [] s K
 | [.tmp a] => outT [.tmp a] s K
 | [.tmp a, .tmp b] => outT [.tmp a, .tmp b] s K
 | [.tmp a, .tmp b, .tmp c] => outT [.tmp a, .tmp b, .tmp c] s K
 | [.cell a t] => loadRes T a t s fun s => outT [.tmp a] s K
 | [.cell a t, .tmp b] => chkO (a != b) (loadRes T a t s fun s => outT [.tmp a, .tmp b] s K)
 | _ => none
end
def resF (T : Nat → TI) (rs : List ResultVar) (N : Nat) (out : SPat) (ns : List Nat) (y : out.Den) : Option (V × List TO) :=
 resT T rs (encS N out y) fun v s => match selT ns s.ob with
  | some obs => some (v, obs)
  | none => none
def retT (N : Nat) (out : SPat) : AX → TS → Option out.Den
 | .normal, s => takeS N out some s
 | .ret, s => takeS N out some s
 | .exit _, _ => none
noncomputable def funT (T : Nat → TI) (tbl : Nat → Option TEnt) (pl : Nat → List Nat × Plan) (N : Nat) (iv : Nat → Option SPat) (c : Code) (inS out : SPat) (x : inS.Den) : Option out.Den :=
 tev T (callTT tbl) pl N iv c out.Den (retT N out) (encS N inS x)
section
variable {R : Type} {T : Nat → TI} {s : TS} {r : R}
theorem loadRes_sound {a t : Nat} {K : TS → Option R} {K' : St → Prop} (hK : ∀ s, K s = some r → K' (eS s)) (h : loadRes T a t s K = some r) : loadK T t (lkp (eS s).env a) (some a) (eS s) K' := by
 unfold loadRes at h
 unfold loadK
 rw [e_lookT]
 split at h
 ·rename_i o i off hv
  rw [hv]
  simp only [e]
  split at h
  ·rename_i n cs hg
   rw [getOb_box hg]
   simp only
   cases i with
   | succ i => cases h
   | zero =>
    simp only at h
    obtain ⟨h1, h2⟩ := chkO_some h
    simp only [Bool.and_eq_true] at h1
    have hoff : off + (T t).size ≤ cs.length := ble_le h1.2
    refine ⟨h1.1, by simp, ?_⟩
    rw [rowOb_zero]
    refine ⟨by rw [eL_length]; exact hoff, ?_⟩
    rw [← dropTake_e, valV_e]
    have hnotown : (∀ k rows, e (valV T t (dropTake off (T t).size cs)) ≠ .own k rows) ∨ isStruct T t = false := by
     cases hs : isStruct T t with
     | false => exact .inr rfl
     | true =>
      refine .inl fun k rows hq => ?_
      unfold valV at hq
      unfold isStruct at hs
      split at hq
      ·simp [e] at hq
      ·rename_i hne
       split at hs
       ·rename_i fs hfs; exact hne fs hfs
       ·cases hs
    cases ho : hasOwnV (valV T t (dropTake off (T t).size cs)) with
    | false =>
     rw [ho] at h2
     simp only at h2
     have hne := e_ne_own ho
     split
     ·rename_i heq; exact absurd heq (hne _ _)
     ·rw [hasOwn_e, ho]
      simp only [Bool.false_eq_true, if_false]
      have := hK _ h2
      rw [← setE_e] at this
      exact this
    | true =>
     rw [ho] at h2
     simp only at h2
     obtain ⟨h3, h4⟩ := chkO_some h2
     simp only [Bool.and_eq_true] at h3
     have hst : valV T t (dropTake off (T t).size cs) = .agg (dropTake off (T t).size cs) := by
      unfold valV
      have hs := h3.1
      unfold isStruct at hs
      split at hs
      ·rename_i hk; rw [hk]
      ·cases hs
     rw [hst] at h4 ho ⊢
     simp only [e]
     have ho' : hasOwn (SV.agg (eL (dropTake off (T t).size cs))) = true := by
      have := hasOwn_e (.agg (dropTake off (T t).size cs))
      rw [ho] at this
      exact this
     rw [ho']
     simp only [if_true]
     refine ⟨h3.1, by show cells1 (eL _) = true; rw [cells1_e]; exact h3.2, ?_⟩
     have := hK _ h4
     rw [← setE_e] at this
     have hlen : (wrV cs off (dropOwnVL (dropTake off (T t).size cs))).length = cs.length := by
      refine wrV_length _ _ _ ?_
      have : (dropOwnVL (dropTake off (T t).size cs)).length ≤ (T t).size := by
       rw [← eL_length, ← dropOwnVL_e, dropOwnL_length, eL_length]
       simp only [dropTake, List.length_take]
       omega
      omega
     have hsc := setCells_box (s := s) hg hlen
     rw [eL_wrV, ← dropOwnVL_e] at hsc
     have e1 : cellsOf (SV.agg (eL (dropTake off (T t).size cs))) = eL (dropTake off (T t).size cs) := rfl
     rw [e1, hsc]
     exact this
  ·cases h
 ·cases h
theorem outT_sound {xs : List Operand} {K : V → TS → Option R} {K' : SV → St → Prop} (hK : ∀ v s, K v s = some r → K' (e v) (eS s)) (h : outT xs s K = some r) : outK xs (eS s) K' := by
 unfold outT at h
 unfold outK
 split at h
 ·show K' (AM.ev (eS s).env _) (strip (eS s) _)
  rw [e_evT, strip_e]; exact hK _ _ h
 ·rename_i hn
  split
  ·rename_i x; exact absurd rfl (hn x)
  ·rw [valsL_e, stripL_e]; exact hK _ _ h
theorem resT_sound {rs : List ResultVar} {K : V → TS → Option R} {K' : SV → St → Prop} (hK : ∀ v s, K v s = some r → K' (e v) (eS s)) (h : resT T rs s K = some r) : resK T rs (eS s) K' := by
 unfold resT at h
 unfold resK
 split at h
 ·exact outT_sound hK h
 ·exact outT_sound hK h
 ·exact outT_sound hK h
 ·exact outT_sound hK h
 ·exact loadRes_sound (fun s h => outT_sound hK h) h
 ·obtain ⟨h1, h2⟩ := chkO_some h
  exact ⟨by simpa using h1, loadRes_sound (fun s h => outT_sound hK h) h2⟩
 ·cases h
end
end Go.TM
end
section
namespace Go.TM
open Go.AM
section
variable {P : Program} {T : Nat → TI}
def slotsOk : Nat → List (Nat × Pat) → Bool
 | _, [] => true
 | k, p :: l => p.1 == k && slotsOk (k + 1) l
theorem slots_idx : ∀ (al : List (Nat × Pat)) (k : Nat) (vs : List V), slotsOk k al = true → eA (mkA al vs) = idx k (eL (headA al vs))
 | [], k, vs, _ => rfl
 | p :: l, k, [], _ => rfl
 | p :: l, k, v :: vs, h => by
  simp only [slotsOk, Bool.and_eq_true, beq_iff_eq] at h
  simp only [mkA, headA, eA, eL, idx, slots_idx l (k + 1) vs h.2, h.1]
theorem headA_length : ∀ (al : List (Nat × Pat)) (vs : List V), (headA al vs).length ≤ al.length
 | [], vs => Nat.le_refl _
 | p :: l, [] => Nat.zero_le _
 | p :: l, v :: vs => by have := headA_length l vs; simp only [headA, List.length_cons]; omega
theorem restA_enc {q : Pat} : ∀ (l : List (Nat × Pat)) (x : (chainA l q).Den), okA l = true → ∃ y : q.Den, restA l (encP (chainA l q) x) = encP q y
 | [], x, _ => ⟨x, rfl⟩
 | p :: l, x, ho => by
  simp only [okA, Bool.and_eq_true] at ho
  simp only [chainA, encP]
  generalize hx : fstD p.2.cst (chainA l q).cst p.2.dflt x = x1
  generalize hy : sndD p.2.cst (chainA l q).cst (chainA l q).dflt x = y1
  obtain ⟨v, hv⟩ := enc_one p.2 (fun q q' hq => by rw [hq] at ho; cases ho.1) (fun hq => by rw [hq] at ho; cases ho.1) x1
  rw [hv]
  exact restA_enc l y1 ho.2
theorem toO_name (o : OPat) (v : V) : (toO o v).name = o.name := by
 cases o <;> cases v <;> rfl
theorem names_mkO : ∀ (l : List OPat) (x : (chainO l).Den), namesT (mkO l (encP (chainO l) x)) = namesP l
 | [], x => rfl
 | o :: l, x => by
  simp only [chainO, encP]
  generalize hx : fstD o.pat.cst (chainO l).cst o.pat.dflt x = x1
  generalize hy : sndD o.pat.cst (chainO l).cst (chainO l).dflt x = y1
  obtain ⟨v, hv⟩ := enc_single .nop rfl o x1
  rw [hv]
  simp only [List.cons_append, List.nil_append, mkO, namesT, namesP, toO_name, names_mkO l y1]
def inOk (n : Nat) (inS : SPat) (ns : List Nat) : Bool :=
 slotsOk 0 inS.al && okA inS.al && noDup (namesP inS.ob) && allGe (namesP inS.ob) && noDup ns && ble inS.al.length n
theorem fun_ok {tbl : Nat → Option TEnt} (htbl : TbOk P tbl) (hT : LayOk P T) (hm : P.follows .mixedOrders = true)
  {f : FuncId} {fn : Func} {c : Code} {rs : List ResultVar} {n : Nat} (pure : Bool) (ps : List (Nat × List Nat)) (inS out : SPat) (ns : List Nat) (pl : Nat → List Nat × Plan) (iv : Nat → Option SPat)
  (hf : P.funcs[f]? = some fn) (hb : fn.body = some c) (hrs : fn.results = rs.toArray) (hn : fn.ntmps = n) (hp : plansOkI T pl c = true) (hin : inOk n inS ns = true)
  (hc : ∀ (vs : Array Value) (w : World), (callFunc f vs).run P w = .ok (.enter f vs) w)
  (F : inS.Den → Option out.Den) (hF : ∀ x y, F x = some y → funT T tbl pl n iv c inS out x = some y) : CtrOk P f (TEnt.W ⟨f, pure, ps, inS, out.Den, F, resF T rs n out ns⟩) := by
 rintro args ob K ⟨x, y, v, obs, h1, h2, h3, h4, h5⟩
 simp only [inOk, Bool.and_eq_true] at hin
 obtain ⟨⟨⟨⟨⟨hsl, hok⟩, hnd⟩, hge⟩, hns⟩, hle⟩ := hin
 refine AC.le h1 h2 (ACb.call ?_ hc)
 obtain ⟨z, hz⟩ := restA_enc (q := chainO inS.ob) inS.al x hok
 have hnames : names (eOs (obsOf inS x)) = namesP inS.ob := by
  rw [names_e]
  show namesT (mkO inS.ob (restA inS.al (encP (chainA inS.al (chainO inS.ob)) x))) = _
  rw [hz, names_mkO]
 refine ACb.of_code ns hT hf hb (by rw [hrs]) hn (by rw [hnames]; exact noDup_spec _ hnd) (by rw [hnames]; exact allGe_spec _ hge) (noDup_spec _ hns) ?_
 have hlen : (eL (argsOf inS x)).length ≤ n := by
  rw [eL_length]
  exact Nat.le_trans (headA_length _ _) (ble_le hle)
 have hst : st0 n (eL (argsOf inS x)) (eOs (obsOf inS x)) = eS (encS n inS x) := by
  rw [st0_den hlen]
  simp only [eS, encS, slots_idx _ _ _ hsl, argsOf, obsOf]
 rw [hst]
 have hfun := hF x y h3
 unfold funT at hfun
 refine tev_sound hT CallV.sound hm (callTT_sound htbl) c _ _ _ _ y hp (fun e s hq => ?_) hfun
 have hres : ∀ {s}, takeS n out some s = some y → gK (fun st => resK T rs st fun sv st2 => ∃ ext', selOb ns st2.ob = some ext' ∧ K sv ext') (eS s) := by
  intro s hq
  refine takeS_sound hq fun z hz => ?_
  simp only [Option.some.injEq] at hz
  subst hz
  refine resT_sound (r := (v, obs)) (fun v' s' hv => ?_) h4
  split at hv
  ·rename_i obs' hsel
   simp only [Option.some.injEq, Prod.mk.injEq] at hv
   obtain ⟨rfl, rfl⟩ := hv
   exact ⟨_, selT_e _ _ _ hsel, h5⟩
  ·cases hv
 cases e with
 | normal => exact hres hq
 | ret => exact hres hq
 | exit id => cases hq
end
def bodyOf (f : Func) : Code := match f.body with
 | some c => c
 | none => .skip
def noIv : Nat → Option SPat := fun _ => none
def noPl : Nat → List Nat × Plan := fun _ => ([], .fin)
def tbT0 : Nat → Option TEnt := fun _ => none
def insT (f : Nat) (en : TEnt) (tbl : Nat → Option TEnt) : Nat → Option TEnt := fun n => match n == f with
 | true => some en
 | false => tbl n
theorem TbOk.nil {P : Program} : TbOk P tbT0 := fun _ _ h => by cases h
theorem TbOk.ins {P : Program} {f : Nat} {en : TEnt} {tbl : Nat → Option TEnt} (ht : TbOk P tbl) (h : CtrOk P en.fid en.W) : TbOk P (insT f en tbl) := by
 intro n e' hn
 unfold insT at hn
 split at hn
 ·rename_i hq
  simp only [Option.some.injEq] at hn
  subst hn
  exact h
 ·exact ht n e' hn
end Go.TM
end
