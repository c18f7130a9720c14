/- Part 22 of the proof that the law FnPool holds of every input; no condition. -/
import Derived.Test.YtdpapeledldifaaGreatX20
set_option autoImplicit true
set_option relaxedAutoImplicit true
set_option linter.all false
section
namespace Go.TM
open Go.AM
section
variable {P:Program} {R:Type} {T:Nat→TI} {s:TS} {K:TS→Option R} {K':St→Prop} {r:R}
theorem namesT_ofOs_wk : ∀ (l : List OPat) (obs : List TO) (x : (chainO l).Den), eqNs (namesT obs) (namesP l) = true → wkL (eL (ofOs obs)) (eL (encP (chainO l) x)) → wkObs (eOs obs) (eOs (mkO l (encP (chainO l) x)))
 | [], [], x, _, _ => rfl
 | [], _ :: _, x, h, _ => by simp [namesT, namesP, eqNs] at h
 | _ :: _, [], x, h, _ => by simp [namesT, namesP, eqNs] at h
 | o :: l, t :: obs, x, hn, h => by
  simp only [namesT, namesP, eqNs, Bool.and_eq_true, beq_iff_eq] at hn
  simp only [chainO, encP, ofOs, eL] at h ⊢
  generalize hx : fstD o.pat.cst (chainO l).cst o.pat.dflt x = x1 at h ⊢
  generalize hy : sndD o.pat.cst (chainO l).cst (chainO l).dflt x = y1 at h ⊢
  cases o with
  | box n p =>
   have h' : wkL (e (ofO (some t)) :: eL (ofOs obs)) (SV.agg (eL (encP p x1)) :: eL (encP (chainO l) y1)) := h
   obtain ⟨h1, h2⟩ := wkL_cons h'
   have h3 := namesT_ofOs_wk l obs y1 hn.2 h2
   cases t with
   | arr m t d l => simp [ofO, e, wk] at h1
   | opn m t d l i cs => simp [ofO, e, wk] at h1
   | box m cs =>
    have h1 : wkL (eL cs) (eL (encP p x1)) := h1
    have hl := wkL_length h1
    simp only [eL_length] at hl
    exact ⟨hn.1, hl, rfl, ⟨h1, rfl⟩, h3⟩
  | arr n g d =>
   have h' : wkL (e (ofO (some t)) :: eL (ofOs obs)) (SV.own g.sz ((x1 : List g.Den).map (encC d g)) :: eL (encP (chainO l) y1)) := h
   obtain ⟨h1, h2⟩ := wkL_cons h'
   have h3 := namesT_ofOs_wk l obs y1 hn.2 h2
   cases t with
   | box m cs => simp [ofO, e, wk] at h1
   | opn m g' d' l' i' cs' => simp [ofO, e, wk] at h1
   | arr m g' d' l' =>
    simp only [ofO, e, wk, SV.own.injEq] at h1
    have key : wkRows (l'.map (encC d' g')) ((x1 : List g.Den).map (encC d g)) := by rw [h1.2]; exact wkRows_refl _
    exact ⟨hn.1, h1.1, rfl, key, h3⟩
  | opn n g d p =>
   obtain ⟨y, i, z, hv, hmk⟩ := opn_enc n g d p x1
   have h' : wkL (e (ofO (some t)) :: eL (ofOs obs)) (eL (encP (OPat.opn n g d p).pat x1) ++ eL (encP (chainO l) y1)) := by
    rw [← eL_append]; exact h
   rw [hv] at h'
   obtain ⟨h1, h2⟩ := wkL_cons h'
   have h3 := namesT_ofOs_wk l obs y1 hn.2 h2
   cases t with
   | box m cs => simp [ofO, e, wk] at h1
   | arr m g' d' l' => simp [ofO, e, wk] at h1
   | opn m g' d' l' i' cs' =>
    simp only [ofO, e, eL, wk, wkL, SV.own.injEq, SV.p.injEq] at h1
    obtain ⟨⟨h6, h7⟩, ⟨_, h8, _⟩, h9, _⟩ := h1
    rw [hv]
    refine ⟨hn.1, h6, rfl, ?_, h3⟩
    show wkRows ((l'.map (encC d' g')).set i' (eL cs')) ((y.map (encC d g)).set i (eL (encP p z)))
    rw [h7, h8]
    exact wkRows_set h9 _ _
theorem args_wk {rest : List V} {q : Pat} : ∀ (l : List (Nat × Pat)) (args : List V) (x : (chainA l q).Den), okA l = true → args.length = l.length → wkL (eL (args ++ rest)) (eL (encP (chainA l q) x)) →
  wkL (eL args) (eL (headA l (encP (chainA l q) x))) ∧ ∃ y : q.Den, restA l (encP (chainA l q) x) = encP q y ∧ wkL (eL rest) (eL (encP q y))
 | [], [], x, _, _, h => ⟨rfl, x, rfl, h⟩
 | [], _ :: _, x, _, hl, _ => by simp at hl
 | _ :: _, [], x, _, hl, _ => by simp at hl
 | p :: l, a :: args, x, ho, hl, h => by
  simp only [okA, Bool.and_eq_true] at ho
  simp only [chainA, encP] at h ⊢
  generalize hx : fstD p.2.cst (chainA l q).cst p.2.dflt x = x1 at h ⊢
  generalize hy : sndD p.2.cst (chainA l q).cst (chainA l q).dflt x = y1 at h ⊢
  obtain ⟨v, hv⟩ := enc_one p.2 (fun q q' hq => by rw [hq] at ho; cases ho.1) (fun hq => by rw [hq] at ho; cases ho.1) x1
  rw [hv] at h ⊢
  simp only [List.cons_append, List.nil_append, eL] at h ⊢
  obtain ⟨h1, h2⟩ := wkL_cons h
  obtain ⟨h3, y, h4, h5⟩ := args_wk l args y1 ho.2 (by simpa using hl) h2
  exact ⟨⟨h1, h3⟩, y, h4, h5⟩
theorem decIn_sound {p:SPat} {args:List V} {obs:List TO} {K:p.Den→Option R} (h:decIn p args obs K=some r) :
  ∃ x,K x=some r∧wkL (eL args) (eL (argsOf p x))∧wkObs (eOs obs) (eOs (obsOf p x)):=by
 obtain ⟨h0,h1⟩:=chkO_some h
 simp only [Bool.and_eq_true] at h0
 obtain ⟨x,cs,rest,h2,h3,h4,_⟩:=decP_wk p.pat true _ _ h1
 obtain ⟨rfl,h5⟩:=endT_some h2
 rw [List.append_nil] at h3
 subst h3
 obtain ⟨h6,y,h7,h8⟩:=args_wk p.al args x h0.1.1 (eq_of_beq h0.1.2) h4
 refine ⟨x,h5,h6,?_⟩
 show wkObs (eOs obs) (eOs (mkO p.ob (restA p.al (encP (chainA p.al (chainO p.ob)) x))))
 rw [h7]
 exact namesT_ofOs_wk p.ob obs y h0.2 h8
theorem resGo_some {en:TEnt} {y:en.Y} {K:V→List TO→Option R} (h:resGo en y K=some r):∃ v obs,en.res y=some (v,obs)∧K v obs=some r:=by
 unfold resGo at h
 split at h
 ·exact ⟨_,_,by assumption,h⟩
 ·cases h
theorem eOs_append:∀ a b:List TO,eOs (a++b)=eOs a++eOs b
 | [],_=>rfl
 | x :: a,b=>by simp only [List.cons_append,eOs,eOs_append a b]
theorem killAllT_n:∀ (ns:List Nat) (s:TS),(killAllT ns s).n=s.n
 | [],_=>rfl
 | o :: ns,s=>by simp only [killAllT,killAllT_n ns];rfl
theorem goT_sound {ns:List Nat} {d:Option Tmp} {v:V} {obs:List TO} (hK:∀ s,K s=some r→K' (eS s)) (h:goT ns d K s v obs=some r):goOn ns d K' (eS s) (e v) (eOs obs):=by
 obtain ⟨h1,h2⟩:=chkO_some h
 unfold goOn
 refine chk_mk ?_ ?_
 ·unfold callOk
  simp only [callOkT,Bool.and_eq_true] at h1
  rw [names_e,closed_e,closedOs_e _ _ h1.1.2]
  simp only [h1.1.1.1.1,h1.1.1.1.2,h1.1.1.2,h1.2,Bool.and_self]
 ·have he:afterCall (outN (slotOf d) 100000 ns) (cNames 100000 ns) (eS s) (eOs obs) (e v) d=eS (afterT (outN (slotOf d) 100000 ns) (cNames 100000 ns) s obs v d):=by
   unfold afterCall afterT
   rw [ren_e,names_e]
   have h3:(⟨(eS s).env,remObs ((cNames 100000 ns).map (outN (slotOf d) 100000 ns)) (eS s).ob⟩:St)=eS ⟨s.n,s.al,remsT ((cNames 100000 ns).map (outN (slotOf d) 100000 ns)) s.ob⟩:=by
    simp only [eS,remsT_e]
   rw [h3,killAllT_e,← setD_e]
   congr 1
   simp only [eS,renOs_e,eOs_append,killAllT_n]
  rw [he]
  exact hK _ h2
theorem callWT_sound {en:TEnt} {ns:List Nat} {xs:List Operand} {caps:List V} {d:Option Tmp} (hK:∀ s,K s=some r→K' (eS s)) (h:callWT en ns xs caps d K s=some r):callW en.W ns xs (eL caps) d K' (eS s):=by
 unfold callWT at h
 unfold callW
 split at h
 ·rename_i obs hobs
  have hs:selOb ns (eS s).ob=some (eOs obs):=selT_e _ _ _ hobs
  rw [hs]
  simp only
  obtain ⟨h1,h2⟩:=chkO_some h
  have h1':=h1
  simp only [Bool.and_eq_true] at h1'
  rw [evTL_evs,← eL_append,closedL_e,closedOs_e _ _ h1'.1.2,hasOwnL_e]
  refine chk_mk (by simp only [h1'.1.1.1,h1'.1.1.2,h1'.2,Bool.and_self]) ?_
  obtain ⟨x,h3,h4,h5⟩:=decIn_sound h2
  obtain ⟨y,h6,h7⟩:=bindO_some h3
  obtain ⟨v,obs',h8,h9⟩:=resGo_some h7
  rw [renL_e,renOs_e]
  exact ⟨x,y,v,obs',h4,h5,h6,h8,goT_sound hK h9⟩
 ·cases h
theorem callF1T_sound {en:TEnt} {ns:List Nat} {n:Nat} {f:Operand} {xs:List Operand} {d:Option Tmp} (hK:∀ s,K s=some r→K' (eS s)) (h:callF1T en ns n f xs d K s=some r):callF1 en.W ns n f xs d K' (eS s):=by
 unfold callF1T at h
 unfold callF1
 rw [e_evT]
 split at h
 ·rename_i n' caps hv
  rw [hv]
  obtain ⟨h1,h2⟩:=chkO_some h
  exact chk_mk h1 (callWT_sound hK h2)
 ·cases h
theorem frzArLT_sound {Q : St → Prop} : ∀ (l : List Nat) {s : TS}, (∀ s, K s = some r → Q (eS s)) → frzArLT l K s = some r → frzArL l Q (eS s)
 | [], s, hK, h => hK _ h
 | o :: l, s, hK, h => by
  unfold frzArLT frzArT at h
  unfold frzArL frzAr
  split at h
  ·rename_i n g d l' hg
   rw [getOb_arr hg]
   refine ⟨rfl, ?_⟩
   have := frzArLT_sound l hK h
   simp only [frzRR_enc]
   simp only [eS] at this ⊢
   rw [subAr_den, show SV.sl g.sz (l'.map (encC false g)) = e (.sl g l') from rfl, subA_e, killOb_e]
   exact this
  ·cases h
theorem callTT_sound {tbl:Nat→Option TEnt} (htb:TbOk P tbl):CallsOk (callTT tbl) (CallV P):=by
 intro R f xs d s K K' r hK h
 unfold callTT at h
 split at h
 ·rename_i n caps hv
  split at h
  ·rename_i en hen
   obtain ⟨hfid,h⟩:=chkO_some h
   have hfid:=eq_of_beq hfid
   obtain ⟨k,hen⟩:=lookE_some hen
   have hok:=htb _ _ hen
   rw [hfid] at hok
   refine ⟨tbOne n (en.ent (locsT en.ps (evTL (frzTTL s xs) xs++caps) (frzTTL s xs).ob)),TblOk.ins TblOk.nil hok,?_⟩
   unfold CallT callT
   rw [e_evT,hv]
   simp only [e]
   have ht:∀ e:Ent,tbOne n e n=some e:=fun e=>by simp only [tbOne,ins,beq_self_eq_true,cond_true]
   rw [ht]
   simp only [TEnt.ent]
   split at h
   ·rename_i hp
    rw [hp]
    simp only
    rw [evTL_evs,← eL_append]
    obtain ⟨x,h3,h4,h5⟩:=decIn_sound h
    obtain ⟨y,h6,h7⟩:=bindO_some h3
    obtain ⟨v,obs',h8,h9⟩:=resGo_some h7
    obtain ⟨h10,h11⟩:=chkO_some h9
    refine ⟨x,y,v,obs',?_,h5,h6,h8,?_⟩
    ·show wkL (brwL (eOs s.ob) _) _
     rw [brwL_e];exact h4
    ·unfold goFlat
     rw [flatV_e,setD_e]
     exact chk_mk h10 (hK _ h11)
   ·rename_i hp
    rw [hp]
    simp only
    rw [frzTTL_e]
    unfold callET at h
    unfold callE
    split at h
    ·rename_i ns hns
     rw [evTL_evs,← eL_append]
     have hns':locsT en.ps (evTL (frzTTL s xs) xs++caps) (frzTTL s xs).ob=some ns:=hns
     rw [hns']
     simp only
     rw [arsT_e]
     exact frzArLT_sound _ (fun s h=>callF1T_sound hK h) h
    ·cases h
  ·cases h
 ·cases h
end
def dropOwnV:V→V
 | .own _ _ _=>.u
 | .emp _=>.u
 | v=>v
def dropOwnVL:List V→List V
 | []=>[]
 | x :: l=>dropOwnV x :: dropOwnVL l
theorem dropOwnVL_e : ∀ l : List V, dropOwnL (eL l) = eL (dropOwnVL l)
 | [] => rfl
 | x :: l => by
  simp only [eL, dropOwnL, dropOwnVL, dropOwnVL_e l]
  congr 1
  cases x <;> rfl
section
variable {R:Type}
def loadRes (T : Nat → TI) (a t : Nat) (s : TS) (K : TS → Option R) : Option R := match lookT s a with
 | .p o i off => match getT s.ob o with
  | some (.box _ cs) => (match i with
   | 0 => chkO ((T t).known && ble (off + (T t).size) cs.length) (match hasOwnV (valV T t (dropTake off (T t).size cs)) with
    | true => chkO (isStruct T t && cells1V (dropTake off (T t).size cs)) (K (setT ⟨s.n, s.al, setBoxT s.ob o (wrV cs off (dropOwnVL (dropTake off (T t).size cs)))⟩ a (valV T t (dropTake off (T t).size cs))))
    | false => K (setT s a (valV T t (dropTake off (T t).size cs))))
   | _ + 1 => none)
  | _ => none
 | _ => none
def outT (xs:List Operand) (s:TS) (K:V→TS→Option R):Option R:=match xs with
 | [x]=>K (evT s x) (stripT s x)
 | xs=>K (.tup (valsT s xs)) (stripTL s xs)
def resT (T:Nat→TI) (rs:List ResultVar) (s:TS) (K:V→TS→Option R):Option R:=match rs with
 | []=>outT [] s K
 | [.tmp a]=>outT [.tmp a] s K
 | [.tmp a,.tmp b]=>outT [.tmp a,.tmp b] s K
 | [.tmp a,.tmp b,.tmp c]=>outT [.tmp a,.tmp b,.tmp c] s K
 | [.cell a t]=>loadRes T a t s fun s=>outT [.tmp a] s K
 | [.cell a t,.tmp b]=>chkO (a != b) (loadRes T a t s fun s=>outT [.tmp a,.tmp b] s K)
 | _=>none
end
def resF (T:Nat→TI) (rs:List ResultVar) (N:Nat) (out:SPat) (ns:List Nat) (y:out.Den):Option (V×List TO) :=
 resT T rs (encS N out y) fun v s=>match selT ns s.ob with
  | some obs=>some (v,obs)
  | none=>none
def retT (N:Nat) (out:SPat):AX→TS→Option out.Den
 | .normal,s=>takeS N out some s
 | .ret,s=>takeS N out some s
 | .exit _,_=>none
noncomputable def funT (T:Nat→TI) (tbl:Nat→Option TEnt) (pl:Nat→List Nat×Plan) (N:Nat) (iv:Nat→Option SPat) (c:Code) (inS out:SPat) (x:inS.Den):Option out.Den :=
 tev T (callTT tbl) pl N iv c out.Den (retT N out) (encS N inS x)
section
variable {R:Type} {T:Nat→TI} {s:TS} {r:R}
theorem loadRes_sound {a t : Nat} {K : TS → Option R} {K' : St → Prop} (hK : ∀ s, K s = some r → K' (eS s)) (h : loadRes T a t s K = some r) : loadK T t (lkp (eS s).env a) (some a) (eS s) K' := by
 unfold loadRes at h
 unfold loadK
 rw [e_lookT]
 split at h
 ·rename_i o i off hv
  rw [hv]
  simp only [e]
  split at h
  ·rename_i n cs hg
   rw [getOb_box hg]
   simp only
   cases i with
   | succ i => cases h
   | zero =>
    simp only at h
    obtain ⟨h1, h2⟩ := chkO_some h
    simp only [Bool.and_eq_true] at h1
    have hoff : off + (T t).size ≤ cs.length := ble_le h1.2
    refine ⟨h1.1, by simp, ?_⟩
    rw [rowOb_zero]
    refine ⟨by rw [eL_length]; exact hoff, ?_⟩
    rw [← dropTake_e, valV_e]
    have hnotown : (∀ k rows, e (valV T t (dropTake off (T t).size cs)) ≠ .own k rows) ∨ isStruct T t = false := by
     cases hs : isStruct T t with
     | false => exact .inr rfl
     | true =>
      refine .inl fun k rows hq => ?_
      unfold valV at hq
      unfold isStruct at hs
      split at hq
      ·simp [e] at hq
      ·rename_i hne
       split at hs
       ·rename_i fs hfs; exact hne fs hfs
       ·cases hs
    cases ho : hasOwnV (valV T t (dropTake off (T t).size cs)) with
    | false =>
     rw [ho] at h2
     simp only at h2
     have hne := e_ne_own ho
     split
     ·rename_i heq; exact absurd heq (hne _ _)
     ·rw [hasOwn_e, ho]
      simp only [Bool.false_eq_true, if_false]
      have := hK _ h2
      rw [← setE_e] at this
      exact this
    | true =>
     rw [ho] at h2
     simp only at h2
     obtain ⟨h3, h4⟩ := chkO_some h2
     simp only [Bool.and_eq_true] at h3
     have hst : valV T t (dropTake off (T t).size cs) = .agg (dropTake off (T t).size cs) := by
      unfold valV
      have hs := h3.1
      unfold isStruct at hs
      split at hs
      ·rename_i hk; rw [hk]
      ·cases hs
     rw [hst] at h4 ho ⊢
     simp only [e]
     have ho' : hasOwn (SV.agg (eL (dropTake off (T t).size cs))) = true := by
      have := hasOwn_e (.agg (dropTake off (T t).size cs))
      rw [ho] at this
      exact this
     rw [ho']
     simp only [if_true]
     refine ⟨h3.1, by show cells1 (eL _) = true; rw [cells1_e]; exact h3.2, ?_⟩
     have := hK _ h4
     rw [← setE_e] at this
     have hlen : (wrV cs off (dropOwnVL (dropTake off (T t).size cs))).length = cs.length := by
      refine wrV_length _ _ _ ?_
      have : (dropOwnVL (dropTake off (T t).size cs)).length ≤ (T t).size := by
       rw [← eL_length, ← dropOwnVL_e, dropOwnL_length, eL_length]
       simp only [dropTake, List.length_take]
       omega
      omega
     have hsc := setCells_box (s := s) hg hlen
     rw [eL_wrV, ← dropOwnVL_e] at hsc
     have e1 : cellsOf (SV.agg (eL (dropTake off (T t).size cs))) = eL (dropTake off (T t).size cs) := rfl
     rw [e1, hsc]
     exact this
  ·cases h
 ·cases h
theorem outT_sound {xs:List Operand} {K:V→TS→Option R} {K':SV→St→Prop} (hK:∀ v s,K v s=some r→K' (e v) (eS s)) (h:outT xs s K=some r):outK xs (eS s) K':=by
 unfold outT at h
 unfold outK
 split at h
 ·show K' (AM.ev (eS s).env _) (strip (eS s) _)
  rw [e_evT,strip_e];exact hK _ _ h
 ·rename_i hn
  split
  ·rename_i x;exact absurd rfl (hn x)
  ·rw [valsL_e,stripL_e];exact hK _ _ h
theorem resT_sound {rs:List ResultVar} {K:V→TS→Option R} {K':SV→St→Prop} (hK:∀ v s,K v s=some r→K' (e v) (eS s)) (h:resT T rs s K=some r):resK T rs (eS s) K':=by
 unfold resT at h
 unfold resK
 split at h
 ·exact outT_sound hK h
 ·exact outT_sound hK h
 ·exact outT_sound hK h
 ·exact outT_sound hK h
 ·exact loadRes_sound (fun s h=>outT_sound hK h) h
 ·obtain ⟨h1,h2⟩:=chkO_some h
  exact ⟨by simpa using h1,loadRes_sound (fun s h=>outT_sound hK h) h2⟩
 ·cases h
end
end Go.TM
end
