/- Part 13 of the proof that the law FnPool holds of every input; no condition. -/
import Derived.Test.YtdpapeledldifaaGreatX11
set_option autoImplicit true
set_option relaxedAutoImplicit true
set_option linter.all false
section
namespace Go.TM
open Go.AM
section
variable {R:Type} {T:Nat→TI} {C:TCall R} {C':CallP} {o:Oper} {s:TS} {K:TS→Option R} {K':St→Prop} {r:R}
theorem tnilCheck {x:Operand} (ho:o.op = .nilCheck x) (hK:∀ s,K s=some r→K' (eS s)) (h:tstep T C o s K=some r):stepK T C' o (eS s) K':=by
 simp only [tstep,ho] at h
 simp only [stepK,stepK0,ho]
 rw [e_evT]
 split at h
 ·rename_i hv;rw [hv];exact Kq hK (setD_e _ (.p _ _ _)) h
 ·rename_i hv;rw [hv];exact Kq hK (setD_e _ (.ro _)) h
 ·cases h
theorem binT_sound {op:BinOp} {x y:V} {K:V→Option R} {K':SV→Prop} (hb:∀ p q,¬ (x = .b p∧y = .b q)) (h:binT op x y K=some r) (hK:∀ v,K v=some r→K' (e v)):binN op (e x) (e y) K':=by
 cases x <;> cases y <;> simp only [binT] at h <;> try cases h
 case b.b p q=>exact absurd ⟨rfl,rfl⟩ (hb p q)
 case i.i k a k' b =>
  simp only [e,binN]
  have hk:∀ {A:Option R},chkO (eqK k k') A=some r→decide (k=k')=true∧A=some r:=fun h=>chkO_some h
  cases op with
  | add=>obtain ⟨h1,h2⟩:=hk h;exact chk_mk h1 (hK _ h2)
  | sub=>obtain ⟨h1,h2⟩:=hk h;exact chk_mk h1 (hK _ h2)
  | mul=>obtain ⟨h1,h2⟩:=hk h;exact chk_mk h1 (hK _ h2)
  | quo=>obtain ⟨h1,h2⟩:=hk h;obtain ⟨h3,h4⟩:=grdO_some h2;exact chk_mk h1 ⟨by simpa using h3,hK _ h4⟩
  | rem=>obtain ⟨h1,h2⟩:=hk h;obtain ⟨h3,h4⟩:=grdO_some h2;exact chk_mk h1 ⟨by simpa using h3,hK _ h4⟩
  | shl=>obtain ⟨h3,h4⟩:=grdO_some h;exact ⟨by simpa using h3,hK _ h4⟩
  | shr=>obtain ⟨h3,h4⟩:=grdO_some h;exact ⟨by simpa using h3,hK _ h4⟩
  | and=>simp only [bitI] at h ⊢;obtain ⟨h1,h2⟩:=hk h;exact chk_mk h1 (hK _ h2)
  | or=>simp only [bitI] at h ⊢;obtain ⟨h1,h2⟩:=hk h;exact chk_mk h1 (hK _ h2)
  | xor=>simp only [bitI] at h ⊢;obtain ⟨h1,h2⟩:=hk h;exact chk_mk h1 (hK _ h2)
  | eql=>simp only [cmpB] at h ⊢;obtain ⟨h1,h2⟩:=hk h;exact chk_mk h1 (hK _ h2)
  | neq=>simp only [cmpB] at h ⊢;obtain ⟨h1,h2⟩:=hk h;exact chk_mk h1 (hK _ h2)
  | lss=>simp only [cmpB] at h ⊢;obtain ⟨h1,h2⟩:=hk h;exact chk_mk h1 (hK _ h2)
  | leq=>simp only [cmpB] at h ⊢;obtain ⟨h1,h2⟩:=hk h;exact chk_mk h1 (hK _ h2)
  | gtr=>simp only [cmpB] at h ⊢;obtain ⟨h1,h2⟩:=hk h;exact chk_mk h1 (hK _ h2)
  | geq=>simp only [cmpB] at h ⊢;obtain ⟨h1,h2⟩:=hk h;exact chk_mk h1 (hK _ h2)
  | _=>simp only [cmpB] at h;cases h
 case s.s a b =>
  simp only [e,binN]
  cases op with
  | add=>obtain ⟨h3,h4⟩:=grdO_some h;exact ⟨by simpa using h3,hK _ h4⟩
  | eql=>exact hK _ h
  | neq=>exact hK _ h
  | lss=>exact hK _ h
  | leq=>exact hK _ h
  | gtr=>exact hK _ h
  | geq=>exact hK _ h
  | _=>simp only [strB] at h;cases h
theorem eqFV_e : ∀ (n : Nat) (fs : List (Nat × Nat)) (a b : List V) (q : Bool), eqFV T n fs a b = some q → eqFs T n fs (eL a) (eL b) = some q
 | _, [], [], [], q, h => h
 | _, [], [], _ :: _, q, h => by cases h
 | _, [], _ :: _, _, q, h => by cases h
 | _, (_, _) :: _, [], _, q, h => by cases h
 | _, (_, _) :: _, _ :: _, [], q, h => by cases h
 | n, (t, o) :: fs, x :: l, y :: m, q, h => by
  simp only [eqFV] at h
  simp only [eL, eqFs]
  cases hn : o == n with
  | false => rw [hn, cond_false] at h; cases h
  | true =>
   rw [hn, cond_true] at h
   rw [if_pos (eq_of_beq hn)]
   split at h
   ·rename_i k0 k a k' b q' hk hq
    rw [hk]
    simp only [e, cellB]
    rw [eqFV_e _ _ _ _ _ hq]
    cases hkk : eqK k k' with
    | false => rw [hkk, cond_false] at h; cases h
    | true =>
     rw [hkk, cond_true] at h
     rw [if_pos (of_decide_eq_true hkk)]
     exact h
   ·rename_i a b q' hk hq
    rw [hk]
    simp only [e, cellB]
    rw [eqFV_e _ _ _ _ _ hq]
    exact h
   ·rename_i a b q' hk hq
    rw [hk]
    simp only [e, cellB]
    rw [eqFV_e _ _ _ _ _ hq]
    exact h
   ·cases h
theorem tbinOp {op:BinOp} {t ty:TypeId} {x y:Operand} (ho:o.op = .binOp op t x y ty) (hK:∀ s,K s=some r→K' (eS s)) (h:tstep T C o s K=some r):stepK T C' o (eS s) K':=by
 simp only [tstep,ho] at h
 simp only [stepK,ho]
 rw [e_evT,e_evT]
 split at h
 ·rename_i a b hx hy
  rw [hx,hy]
  simp only [e,stepK0,ho]
  rw [e_evT,e_evT,hx,hy]
  simp only [e]
  split at h
  ·rename_i fs hk
   rw [hk]
   simp only
   split at h
   ·rename_i q hq;rw [eqFV_e _ _ _ _ _ hq];exact Kq hK (setD_e _ (.b _)) h
   ·rename_i q hq;rw [eqFV_e _ _ _ _ _ hq];exact Kq hK (setD_e _ (.b _)) h
   ·cases h
  ·cases h
 ·rename_i g l hx hy
  rw [hx,hy]
  simp only [e,stepK0,ho]
  rw [e_evT,e_evT,hx,hy]
  simp only [e]
  split at h
  ·rename_i t' hk
   rw [hk]
   simp only
   obtain ⟨h1,h2⟩:=chkO_some h
   obtain ⟨h3,h4⟩:=grdO_some h2
   simp only [Bool.not_eq_true',decide_eq_false_iff_not] at h3
   refine ⟨h1,fun z hz=>?_⟩
   have:z=false:=hz (by intro hl;rw [List.map_eq_nil_iff] at hl;rw [hl] at h3;exact h3 rfl)
   subst this
   exact Kq hK (setD_e _ (.b _)) h4
  ·rename_i t' hk
   rw [hk]
   simp only
   obtain ⟨h1,h2⟩:=chkO_some h
   obtain ⟨h3,h4⟩:=grdO_some h2
   simp only [Bool.not_eq_true',decide_eq_false_iff_not] at h3
   refine ⟨h1,fun z hz=>?_⟩
   have:z=true:=hz (by intro hl;rw [List.map_eq_nil_iff] at hl;rw [hl] at h3;exact h3 rfl)
   subst this
   exact Kq hK (setD_e _ (.b _)) h4
  ·cases h
 ·rename_i p q hx hy
  rw [hx,hy]
  simp only [e,stepK0,ho]
  rw [e_evT,e_evT,hx,hy]
  simp only [e]
  split at h
  ·rename_i hk;rw [hk];exact Kq hK (setD_e _ (.b _)) h
  ·rename_i hk;rw [hk];exact Kq hK (setD_e _ (.b _)) h
  ·cases h
 ·rename_i k a k' b hx hy
  rw [hx,hy]
  simp only [e]
  exact binT_sound (x:=.i k a) (y:=.i k' b) (fun _ _ hh=>by cases hh.1) h fun v hv=>Kq hK (setD_e _ v) hv
 ·rename_i a b hx hy
  rw [hx,hy]
  simp only [e]
  exact binT_sound (x:=.s a) (y:=.s b) (fun _ _ hh=>by cases hh.1) h fun v hv=>Kq hK (setD_e _ v) hv
 ·cases h
theorem tunOp {op:UnOp} {t:TypeId} {x:Operand} (ho:o.op = .unOp op t x) (hK:∀ s,K s=some r→K' (eS s)) (h:tstep T C o s K=some r):stepK T C' o (eS s) K':=by
 simp only [tstep,ho] at h
 simp only [stepK,stepK0,ho]
 rw [e_evT]
 split at h
 ·rename_i hv;rw [hv];exact Kq hK (setD_e _ (.b _)) h
 ·rename_i hv;rw [hv];exact Kq hK (setD_e _ (.i _ _)) h
 ·cases h
theorem castO_some {g g':GT} {l:List g'.Den} {K:List g.Den→Option R} (h:castO l K=some r):∃ hs:g.same g'=true,K (castL hs l)=some r:=by
 unfold castO at h
 split at h
 ·exact ⟨_,h⟩
 ·cases h
theorem bytesOf_enc : ∀ l : List UInt8, bytesOf (l.map (encC false .byte)) = some l
 | [] => rfl
 | c :: l => by
  have hc : UInt8.ofNat (((c : UInt8).toNat : Int)).toNat = c := by simp
  have h1 : AM.byteOf (encC false .byte c) = some c := by
   show some (UInt8.ofNat (((c : UInt8).toNat : Int)).toNat) = some c
   rw [hc]
  have h2 := bytesOf_enc l
  rw [List.map_cons]
  unfold bytesOf
  rw [h1, h2]
theorem tconvert {src dst:TypeId} {x:Operand} (ho:o.op = .convert src dst x) (hK:∀ s,K s=some r→K' (eS s)) (h:tstep T C o s K=some r):stepK T C' o (eS s) K':=by
 simp only [tstep,ho] at h
 simp only [stepK,ho]
 rw [e_evT]
 split at h
 ·rename_i k k' n hk hv
  rw [hk,hv]
  simp only [e]
  obtain ⟨h1,h2⟩:=chkO_some h
  exact chk_mk h1 (Kq hK (setD_e _ (.i _ _)) h2)
 ·rename_i t l hk hv
  rw [hk,hv]
  simp only [e,stepK0,ho]
  rw [e_evT,hk,hv]
  simp only [e]
  split at h
  ·rename_i h1 h2
   rw [h1,h2]
   exact Kq hK (setD_e _ (.sl .byte _)) h
  ·cases h
 ·rename_i l hk hv
  rw [hk,hv]
  simp only [e,stepK0,ho]
  rw [e_evT,hk,hv]
  simp only [e]
  split at h
  ·rename_i h1;rw [h1];exact Kq hK (setD_e _ (.s _)) h
  ·cases h
 ·rename_i g l hk hv
  rw [hk,hv]
  simp only [e,stepK0,ho]
  rw [e_evT,hk,hv]
  simp only [e]
  split at h
  ·rename_i t h1
   rw [h1]
   simp only
   split at h
   ·rename_i h2
    rw [h2]
    obtain ⟨hs,h3⟩:=castO_some h
    have hm:=castL_map hs l false
    rw [← hm,bytesOf_enc]
    exact Kq hK (setD_e _ (.s _)) h3
   ·cases h
  ·cases h
 ·rename_i g d l hk hv
  rw [hk,hv]
  simp only [e,stepK0,ho]
  rw [e_evT,hk,hv]
  simp only [e]
  split at h
  ·rename_i t h1
   rw [h1]
   simp only
   split at h
   ·rename_i h2
    rw [h2]
    obtain ⟨hs,h3⟩:=castO_some h
    have hm:=castL_map' hs l (d:=false) (d':=d) (.inr rfl)
    rw [← hm,bytesOf_enc]
    exact Kq hK (setD_e _ (.s _)) h3
   ·cases h
  ·cases h
 ·cases h
theorem evTL_e:∀ xs:List Operand,xs.map (AM.ev (eS s).env)=eL (evTL s xs)
 | []=>rfl
 | x :: l=>by simp only [List.map_cons,evTL,eL,e_evT,evTL_e l]
theorem tmakeFunc {f:Fn} {first caps:Array Operand} (ho:o.op = .makeFunc f first caps) (hK:∀ s,K s=some r→K' (eS s)) (h:tstep T C o s K=some r):stepK T C' o (eS s) K':=by
 simp only [tstep,ho] at h
 simp only [stepK,ho]
 split at h
 ·obtain ⟨h1,h2⟩:=chkO_some h
  rw [evTL_e,hasOwnL_e]
  exact chk_mk h1 (Kq hK (setD_e _ (.fn _ _)) h2)
 ·cases h
theorem eqSVs_eq : ∀ (a b : List SV), tstep.eqSVs a b = true → a = b
 | [], [], _ => rfl
 | [], _ :: _, h => by simp [tstep.eqSVs] at h
 | _ :: _, [], h => by simp [tstep.eqSVs] at h
 | x :: l, y :: m, h => by
  simp only [tstep.eqSVs, Bool.and_eq_true] at h
  rw [eqSVs_eq l m h.2]
  congr 1
  have h1 := h.1
  split at h1
  ·simp only [eqK, Bool.and_eq_true, decide_eq_true_eq] at h1; rw [h1.1, h1.2]
  ·rw [eq_of_beq h1]
  ·rfl
  ·rw [eq_of_beq h1]
  ·cases h1
theorem tmakeSlice {t:TypeId} {x y:Operand} (ho:o.op = .makeSlice t x y) (hK:∀ s,K s=some r→K' (eS s)) (h:tstep T C o s K=some r):stepK T C' o (eS s) K':=by
 simp only [tstep,ho] at h
 simp only [stepK,stepK0,ho]
 rw [e_evT,e_evT]
 split at h
 ·rename_i t' n m hk hx hy
  rw [hk,hx,hy]
  simp only [e]
  split at h
  ·rename_i g hg
   obtain ⟨h1,h2⟩:=chkO_some h
   obtain ⟨h3,h4⟩:=grdO_some h2
   simp only [Bool.and_eq_true,decide_eq_true_eq] at h1 h3
   refine ⟨h1.1.1.1,h3.1.1.1,h3.1.1.2,h3.1.2,h3.2,Kq hK ?_ h4⟩
   have:=setD_e (s:=s) o.dst (.own g true (List.replicate n.toNat g.dflt))
   simp only [e,List.map_replicate] at this
   rw [eqSVs_eq _ _ h1.1.2,← eq_of_beq h1.2]
   exact this
  ·cases h
 ·cases h
theorem optInt_e (d : Int) : ∀ x : Option Operand, optInt (eS s).env d x = optIT s d x
 | none => rfl
 | some x => by
  simp only [optInt, optIT, e_evT]
  cases evT s x <;> rfl
theorem fieldAddr_aux (cs:List V) (n:Nat):eL (cs.drop n)=(eL cs).drop n:=by simp only [eL_map,List.map_drop]
theorem tfieldAddr {t:TypeId} {x:Operand} {f:Nat} (ho:o.op = .fieldAddr t x f) (hK:∀ s,K s=some r→K' (eS s)) (h:tstep T C o s K=some r):stepK T C' o (eS s) K':=by
 simp only [tstep,ho] at h
 simp only [stepK,ho]
 rw [e_evT]
 split at h
 ·rename_i fs a i off hk hv
  rw [hk,hv]
  simp only [e]
  split at h
  ·rename_i ft fo hf
   rw [hf]
   obtain ⟨h1,h2⟩:=chkO_some h
   exact chk_mk h1 (Kq hK (setD_e _ (.p _ _ _)) h2)
  ·cases h
 ·rename_i fs cs hk hv
  rw [hk,hv]
  simp only [e]
  split at h
  ·rename_i ft fo hf
   rw [hf]
   obtain ⟨h1,h2⟩:=chkO_some h
   refine chk_mk h1 (Kq hK ?_ h2)
   rw [← fieldAddr_aux]
   exact setD_e _ (.ro _)
  ·cases h
 ·cases h
theorem tfield {t:TypeId} {x:Operand} {f:Nat} (ho:o.op = .field t x f) (hK:∀ s,K s=some r→K' (eS s)) (h:tstep T C o s K=some r):stepK T C' o (eS s) K':=by
 simp only [tstep,ho] at h
 simp only [stepK,ho]
 rw [e_evT]
 split at h
 ·rename_i fs cs hk hv
  rw [hk,hv]
  simp only [e]
  split at h
  ·rename_i ft fo hf
   rw [hf]
   obtain ⟨h1,h2⟩:=chkO_some h
   simp only
   rw [hasOwnL_e,eL_length,← dropTake_e,valV_e]
   exact chk_mk h1 (Kq hK (setD_e _ _) h2)
  ·cases h
 ·cases h
theorem idxT_sound {g:GT} {l:List g.Den} {n:Int} {t:Nat} {d:Option Tmp} (ht:tyOk T t g=true) (hK:∀ s,K s=some r→K' (eS s)) (h:idxT s d K g l n=some r):(0≤n∧n<(l.map (encC false g)).length)∧ixN T t (l.map (encC false g)) n.toNat d (eS s) K':=by
 obtain ⟨h1,h2⟩:=grdO_some h
 have h1:=of_decide_eq_true h1
 obtain ⟨x,hx,h3⟩:=atO_some h2
 have hlt:=lt_of_some hx
 refine ⟨⟨h1,by rw [List.length_map];omega⟩,tyOk_shapes ht l,tyOk_gen ht fun row hr=>?_⟩
 rw [List.getElem?_map,hx] at hr
 simp only [Option.map_some,Option.some.injEq] at hr
 subst hr
 rw [← eL_cells]
 exact Kq hK (setD_e _ (.ro _)) h3
theorem frzL_app:∀ a b:List SV,frzL (a++b)=frzL a++frzL b
 | [],_=>rfl
 | x :: l,b=>by simp only [List.cons_append,frzL,frzL_app l b]
theorem frzRR_map:∀ l:List (List SV),frzRR l=l.map frzL
 | []=>rfl
 | x :: l=>by simp only [frzRR,List.map_cons,frzRR_map l]
theorem frz_enc : ∀ (g : GT) (d : Bool) (x : g.Den), frzL (encC d g x) = encC false g x
 | .int _, _, _ => rfl
 | .byte, _, _ => rfl
 | .bool, _, _ => rfl
 | .str, _, _ => rfl
 | .sl g, d, l => by
  cases d with
  | false => rfl
  | true =>
   simp only [encC, frzL, frz, frzRR_map, List.map_map]
   congr 2
   exact List.map_congr_left fun x _ => frz_enc g true x
 | .unit, _, _ => rfl
 | .pair a b, d, x => by simp only [encC, frzL_app, frz_enc a, frz_enc b]
theorem frzRR_enc (g:GT) (d:Bool) (l:List g.Den):frzRR (l.map (encC d g))=l.map (encC false g):=by
 rw [frzRR_map,List.map_map]
 exact List.map_congr_left fun x _=>frz_enc g d x
mutual
theorem frz_e:∀ v:V,frz (e v)=e (frzV v)
 | .own g d l=>by simp only [e,frz,frzV,frzRR_enc]
 | .emp g=>rfl
 | .agg cs=>by simp only [e,frz,frzV,frzVL_e cs]
 | .tup cs=>by simp only [e,frz,frzV,frzVL_e cs]
 | .u | .sk | .i _ _ | .b _ | .s _ | .sl _ _ | .ar _ | .p _ _ _ | .ro _ | .nilp | .nil | .fn _ _=>rfl
theorem frzVL_e:∀ l:List V,frzL (eL l)=eL (frzV.frzVL l)
 | []=>rfl
 | x :: l=>by simp only [eL,frzL,frzV.frzVL,frz_e x,frzVL_e l]
end
theorem frzT_e (x : Operand) : frzT (eS s) x = eS (frzTT s x) := by
 cases x with
 | tmp t =>
  simp only [frzT, frzTT]
  rw [e_lookT, hasOwn_e]
  cases hasOwnV (lookT s t)
  ·rfl
  ·simp only [if_true]; rw [frz_e, setE_e]
 | _ => rfl
theorem tindexAddr {t:TypeId} {x y:Operand} (ho:o.op = .indexAddr t x y) (hK:∀ s,K s=some r→K' (eS s)) (h:tstep T C o s K=some r):stepK T C' o (eS s) K':=by
 simp only [tstep,ho] at h
 simp only [stepK,ho]
 rw [e_evT,e_evT]
 split at h
 ·rename_i t' g l k n hk hx hy
  rw [hk,hx,hy]
  simp only [e]
  obtain ⟨h1,h2⟩:=chkO_some h
  simp only [Bool.and_eq_true] at h1
  exact chk_mk (by rw [h1.1,(tyOk_spec h1.2).2];simp) (idxT_sound h1.2 hK h2)
 ·rename_i t' g d l k n hk hx hy
  rw [hk,hx,hy]
  simp only [e]
  obtain ⟨h1,h2⟩:=chkO_some h
  simp only [Bool.and_eq_true] at h1
  refine chk_mk (by rw [h1.1,(tyOk_spec h1.2).2];simp) ?_
  rw [frzRR_enc,frzT_e,List.length_map]
  have:=idxT_sound h1.2 hK h2
  rw [List.length_map] at this
  exact this
 ·rename_i t' a k n hk hx hy
  rw [hk,hx,hy]
  simp only [e]
  split at h
  ·rename_i m g d l hg
   rw [getOb_arr hg]
   obtain ⟨h1,h2⟩:=chkO_some h
   obtain ⟨h3,h4⟩:=grdO_some h2
   simp only [Bool.and_eq_true,decide_eq_true_eq] at h3
   refine chk_mk h1 ⟨⟨h3.1,by simp only [List.length_map];exact h3.2⟩,Kq hK (setD_e _ (.p _ _ _)) h4⟩
  ·rename_i m g d l j cs hg
   rw [getOb_opn hg]
   obtain ⟨h1,h2⟩:=chkO_some h
   obtain ⟨h3,h4⟩:=grdO_some h2
   simp only [Bool.and_eq_true,decide_eq_true_eq] at h3
   refine chk_mk h1 ⟨⟨h3.1,by simp only [List.length_set,List.length_map];exact h3.2⟩,Kq hK (setD_e _ (.p _ _ _)) h4⟩
  ·cases h
 ·cases h
theorem tindex {t:TypeId} {x y:Operand} (ho:o.op = .index t x y) (hK:∀ s,K s=some r→K' (eS s)) (h:tstep T C o s K=some r):stepK T C' o (eS s) K':=by
 simp only [tstep,ho] at h
 simp only [stepK,stepK0,ho]
 rw [e_evT,e_evT]
 split at h
 ·rename_i l k n hk hx hy
  rw [hk,hx,hy]
  simp only [e]
  obtain ⟨h1,h2⟩:=grdO_some h
  have h1:=of_decide_eq_true h1
  obtain ⟨c,hc,h3⟩:=atO_some h2
  have hlt:=lt_of_some hc
  refine ⟨⟨h1,by omega⟩,fun c' hc'=>?_⟩
  rw [hc] at hc'
  simp only [Option.some.injEq] at hc'
  subst hc'
  exact Kq hK (setD_e _ (.i _ _)) h3
 ·cases h
theorem textract {x:Operand} {j:Nat} (ho:o.op = .extract x j) (hK:∀ s,K s=some r→K' (eS s)) (h:tstep T C o s K=some r):stepK T C' o (eS s) K':=by
 simp only [tstep,ho] at h
 simp only [stepK,ho]
 split at h
 ·rename_i t
  simp only
  rw [e_lookT]
  split at h
  ·rename_i vs hv
   rw [hv]
   simp only [e]
   obtain ⟨h1,h2⟩:=chkO_some h
   rw [eL_length,← e_lkV,hasOwn_e]
   refine chk_mk h1 ?_
   revert h2
   cases hasOwnV (lkV vs j)
   ·intro h2;exact Kq hK (setD_e _ _) h2
   ·intro h2
    refine Kq hK ?_ h2
    simp only
    rw [show SV.tup (upd (eL vs) j .u)=e (.tup (updV vs j .u)) by simp only [e,eL_updV],setE_e,setD_e]
  ·cases h
 ·cases h
end
end Go.TM
end
