/- Part 21 of the proof that the law FnPool holds of every input; no condition. -/
import Derived.Test.YtdpapeledldifaaGreatX19
set_option autoImplicit true
set_option relaxedAutoImplicit true
set_option linter.all false
section
namespace Go.TM
open Go.AM
mutual
def renV (σ:Nat→Nat):V→V
 | .ar n=>.ar (σ n)
 | .p n i off=>.p (σ n) i off
 | .fn f caps=>.fn f (renVL σ caps)
 | .agg cs=>.agg (renVL σ cs)
 | .tup cs=>.tup (renVL σ cs)
 | .u=>.u
 | .sk=>.sk
 | .i k n=>.i k n
 | .b x=>.b x
 | .s x=>.s x
 | .sl t r=>.sl t r
 | .own t d r=>.own t d r
 | .emp t=>.emp t
 | .ro c=>.ro c
 | .nilp=>.nilp
 | .nil=>.nil
def renVL (σ:Nat→Nat):List V→List V
 | []=>[]
 | x :: l=>renV σ x :: renVL σ l
end
def renO (σ:Nat→Nat):TO→TO
 | .box n cs=>.box (σ n) (renVL σ cs)
 | .arr n t d l=>.arr (σ n) t d l
 | .opn n t d l i cs=>.opn (σ n) t d l i (renVL σ cs)
def renOs (σ:Nat→Nat):List TO→List TO
 | []=>[]
 | x :: l=>renO σ x :: renOs σ l
mutual
def closedV (ns:List Nat):V→Bool
 | .ar n=>ns.contains n
 | .p n _ _=>ns.contains n
 | .fn _ caps=>closedVL ns caps
 | .agg cs=>closedVL ns cs
 | .tup cs=>closedVL ns cs
 | _=>true
def closedVL (ns:List Nat):List V→Bool
 | []=>true
 | x :: l=>closedV ns x && closedVL ns l
end
def closedOs (ns:List Nat):List TO→Bool
 | []=>true
 | x :: l=>(match x with | .box _ cs=>closedVL ns cs | .arr _ _ _ _=>true | .opn _ _ _ _ _ cs=>closedVL ns cs) && closedOs ns l
def namesT:List TO→List Nat
 | []=>[]
 | x :: l=>x.name :: namesT l
def selT : List Nat → List TO → Option (List TO)
 | [], _ => some []
 | n :: ns, l => match getT l n, selT ns l with
  | some x, some xs => some (x :: xs)
  | _, _ => none
def remT (o:Nat):List TO→List TO
 | []=>[]
 | x :: l=>bif x.name == o then l else x :: remT o l
def remsT:List Nat→List TO→List TO
 | [],l=>l
 | o :: ns,l=>remsT ns (remT o l)
def killAllT:List Nat→TS→TS
 | [],s=>s
 | o :: l,s=>killAllT l (killT o s)
def followT (ob : List TO) : V → List Nat → Option Nat
 | .p o _ _, [] => some o
 | .ar o, [] => some o
 | .p o i off, c :: cs => match getT ob o with
  | some (.box _ row) => (match i with
   | 0 => followT ob (lkV row (off + c)) cs
   | _ + 1 => none)
  | _ => none
 | .ar o, c :: cs => match getT ob o with
  | some (.opn _ _ _ _ _ row) => followT ob (lkV row c) cs
  | _ => none
 | .agg row, c :: cs => followT ob (lkV row c) cs
 | .fn _ row, c :: cs => followT ob (lkV row c) cs
 | _, _ => none
def locsT : List (Nat × List Nat) → List V → List TO → Option (List Nat)
 | [], _, _ => some []
 | p :: l, args, ob => match followT ob (lkV args p.1) p.2, locsT l args ob with
  | some n, some ns => some (n :: ns)
  | _, _ => none
def arsT (ns:List Nat):List V→List Nat
 | []=>[]
 | .ar o :: l=>bif ns.contains o then arsT ns l else o :: arsT (o :: ns) l
 | _ :: l=>arsT ns l
def frzTTL (s:TS):List Operand→TS
 | []=>s
 | x :: l=>frzTTL (frzTT s x) l
mutual
def brwV (ob : List TO) : V → V
 | .own g _ l => .sl g l
 | .emp g => .sl g []
 | .ar o => match getT ob o with
  | some (.arr _ g _ l) => .sl g l
  | _ => .u
 | .agg cs => .agg (brwVL ob cs)
 | .tup cs => .tup (brwVL ob cs)
 | v => v
def brwVL (ob : List TO) : List V → List V
 | [] => []
 | x :: l => brwV ob x :: brwVL ob l
end
mutual
def flatVV:V→Bool
 | .i _ _=>true
 | .b _=>true
 | .s _=>true
 | .agg cs=>flatVVL cs
 | .tup cs=>flatVVL cs
 | _=>false
def flatVVL:List V→Bool
 | []=>true
 | x :: l=>flatVV x && flatVVL l
end
section
variable {σ:Nat→Nat}
mutual
theorem ren_e:∀ v:V,ren σ (e v)=e (renV σ v)
 | .ar _ | .p _ _ _ | .u | .sk | .i _ _ | .b _ | .s _ | .sl _ _ | .own _ _ _ | .emp _ | .ro _ | .nilp | .nil=>rfl
 | .fn f c=>by simp only [e,ren,renV,renL_e c]
 | .agg c=>by simp only [e,ren,renV,renL_e c]
 | .tup c=>by simp only [e,ren,renV,renL_e c]
theorem renL_e:∀ l:List V,renL σ (eL l)=eL (renVL σ l)
 | []=>rfl
 | x :: l=>by simp only [eL,renL,renVL,ren_e x,renL_e l]
end
theorem renVL_length:∀ l:List V,(renVL σ l).length=l.length
 | []=>rfl
 | x :: l=>by simp only [renVL,List.length_cons,renVL_length l]
theorem ren_id:∀ v:SV,plain v=true→ren σ v=v
 | .i _ _,_=>rfl
 | .b _,_=>rfl
 | .s _,_=>rfl
 | .sl _ _,_=>rfl
 | .own _ _,_=>rfl
 | .nil,_=>rfl
 | .u,_=>rfl
 | .sk,_=>rfl
 | .nilp,_=>rfl
 | .ar _,h=>by simp [plain] at h
 | .p _ _ _,h=>by simp [plain] at h
 | .ro _,h=>by simp [plain] at h
 | .fn _ _,h=>by simp [plain] at h
 | .agg _,h=>by simp [plain] at h
 | .tup _,h=>by simp [plain] at h
theorem renL_id : ∀ l : List SV, plainL l = true → renL σ l = l
 | [], _ => rfl
 | x :: l, h => by
  simp only [plainL, Bool.and_eq_true] at h
  simp only [renL, ren_id x h.1, renL_id l h.2]
theorem renRows_enc (t:GT) (d:Bool):∀ l:List t.Den,renRows σ (l.map (encC d t))=l.map (encC d t)
 | []=>rfl
 | x :: l=>by simp only [List.map_cons,renRows,renL_id _ (plain_enc t d x),renRows_enc t d l]
theorem renRows_set:∀ (rows:List (List SV)) (i:Nat) (r:List SV),renRows σ (rows.set i r)=(renRows σ rows).set i (renL σ r)
 | [],i,r=>rfl
 | x :: l,0,r=>rfl
 | x :: l,i+1,r=>by simp only [List.set_cons_succ,renRows,renRows_set l i r]
theorem renO_e (x:TO):renOb σ (eO x)=eO (renO σ x):=by
 cases x with
 | box n cs=>simp only [eO,renOb,renO,if_true,renRows,renL_e,renVL_length]
 | arr n t d l=>simp only [eO,renOb,renO,Bool.false_eq_true,if_false]
 | opn n t d l i cs=>simp only [eO,renOb,renO,if_true,renRows_set,renRows_enc,renL_e]
theorem renOs_e:∀ l:List TO,renObs σ (eOs l)=eOs (renOs σ l)
 | []=>rfl
 | x :: l=>by simp only [eOs,renObs,renOs,renO_e,renOs_e l]
mutual
theorem closed_e (ns:List Nat):∀ v:V,closed ns (e v)=closedV ns v
 | .ar _ | .p _ _ _ | .u | .sk | .i _ _ | .b _ | .s _ | .sl _ _ | .own _ _ _ | .emp _ | .ro _ | .nilp | .nil=>rfl
 | .fn f c=>by simp only [e,closed,closedV,closedL_e ns c]
 | .agg c=>by simp only [e,closed,closedV,closedL_e ns c]
 | .tup c=>by simp only [e,closed,closedV,closedL_e ns c]
theorem closedL_e (ns:List Nat):∀ l:List V,closedL ns (eL l)=closedVL ns l
 | []=>rfl
 | x :: l=>by simp only [eL,closedL,closedVL,closed_e ns x,closedL_e ns l]
end
theorem closed_plain (ns:List Nat):∀ v:SV,plain v=true→closed ns v=true
 | .i _ _,_ | .b _,_ | .s _,_ | .sl _ _,_ | .own _ _,_ | .nil,_ | .u,_ | .sk,_ | .nilp,_=>rfl
 | .ar _,h=>by simp [plain] at h
 | .p _ _ _,h=>by simp [plain] at h
 | .ro _,h=>by simp [plain] at h
 | .fn _ _,h=>by simp [plain] at h
 | .agg _,h=>by simp [plain] at h
 | .tup _,h=>by simp [plain] at h
theorem closedL_plain (ns : List Nat) : ∀ l : List SV, plainL l = true → closedL ns l = true
 | [], _ => rfl
 | x :: l, h => by
  simp only [plainL, Bool.and_eq_true] at h
  simp only [closedL, closed_plain ns x h.1, closedL_plain ns l h.2, Bool.and_self]
theorem closedRows_set (ns : List Nat) (t : GT) (d : Bool) (r : List SV) (hr : closedL ns r = true) : ∀ (l : List t.Den) (i : Nat), closedRows ns ((l.map (encC d t)).set i r) = true
 | [], i => rfl
 | x :: l, 0 => by
  have : ∀ l : List t.Den, closedRows ns (l.map (encC d t)) = true := fun l => by
   induction l with
   | nil => rfl
   | cons y l ih => simp only [List.map_cons, closedRows, closedL_plain ns _ (plain_enc t d y), ih, Bool.and_self]
  simp only [List.map_cons, List.set_cons_zero, closedRows, hr, this l, Bool.and_self]
 | x :: l, i + 1 => by simp only [List.map_cons, List.set_cons_succ, closedRows, closedL_plain ns _ (plain_enc t d x), closedRows_set ns t d r hr l i, Bool.and_self]
theorem closedOs_e (ns : List Nat) : ∀ l : List TO, closedOs ns l = true → closedObs ns (eOs l) = true
 | [], _ => rfl
 | x :: l, h => by
  simp only [closedOs, Bool.and_eq_true] at h
  simp only [eOs, closedObs, closedOs_e ns l h.2, Bool.and_true]
  have h1 := h.1
  cases x with
  | box n cs => simp only at h1; simp only [eO, if_true, closedRows, closedL_e, h1, Bool.and_true]
  | arr n t d l => simp only [eO, Bool.false_eq_true, if_false]
  | opn n t d l i cs => simp only at h1; simp only [eO, if_true]; exact closedRows_set ns t d _ (by rw [closedL_e]; exact h1) l i
theorem names_e : ∀ l : List TO, names (eOs l) = namesT l
 | [] => rfl
 | x :: l => by
  have := names_e l
  simp only [names] at this
  simp only [eOs, names, namesT, List.map_cons, this, eO_name]
theorem selT_e : ∀ (ns : List Nat) (l : List TO) (xs : List TO), selT ns l = some xs → selOb ns (eOs l) = some (eOs xs)
 | [], l, xs, h => by simp only [selT, Option.some.injEq] at h; subst h; rfl
 | n :: ns, l, xs, h => by
  simp only [selT] at h
  split at h
  ·rename_i x xs' hx hxs
   simp only [Option.some.injEq] at h
   subst h
   simp only [selOb, getOb_e, hx, Option.map_some, selT_e ns l xs' hxs, eOs]
  ·cases h
theorem remT_e (o : Nat) : ∀ l : List TO, remOb o (eOs l) = eOs (remT o l)
 | [] => rfl
 | x :: l => by
  simp only [eOs, remOb, remT, eO_name]
  by_cases h : x.name = o
  ·simp [h]
  ·have h' : (x.name == o) = false := by simpa using h
   simp only [h, if_false, h', cond_false, eOs, remT_e o l]
theorem remsT_e:∀ (ns:List Nat) (l:List TO),remObs ns (eOs l)=eOs (remsT ns l)
 | [],_=>rfl
 | o :: ns,l=>by simp only [remObs,remsT,remT_e,remsT_e ns]
theorem killAllT_e:∀ (ns:List Nat) (s:TS),killAll ns (eS s)=eS (killAllT ns s)
 | [],_=>rfl
 | o :: ns,s=>by simp only [killAll,killAllT,killSt_e,killAllT_e ns]
theorem arsT_e : ∀ (l : List V) (ns : List Nat), arsIn ns (eL l) = arsT ns l
 | [], _ => rfl
 | x :: l, ns => by
  cases x with
  | ar o => simp only [eL, e, arsIn, arsT, arsT_e l]
  | _ => simp only [eL, e, arsIn, arsT, arsT_e l]
theorem frzTTL_e:∀ (l:List Operand) (s:TS),frzTL (eS s) l=eS (frzTTL s l)
 | [],_=>rfl
 | x :: l,s=>by simp only [frzTL,frzTTL,frzT_e,frzTTL_e l]
mutual
theorem brw_e {ob : List TO} : ∀ v : V, brw (eOs ob) (e v) = e (brwV ob v)
 | .own g d l => by simp only [e, brw, brwV, frzRR_enc]
 | .emp g => rfl
 | .ar o => by
  simp only [e, brw, brwV, getOb_e]
  cases getT ob o with
  | none => rfl
  | some x =>
   cases x with
   | box n cs => simp only [Option.map_some, eO, e]
   | arr n g d l => simp only [Option.map_some, eO, e, frzRR_enc]
   | opn n g d l i cs => simp only [Option.map_some, eO, e]
 | .agg cs => by simp only [e, brw, brwV, brwL_e cs]
 | .tup cs => by simp only [e, brw, brwV, brwL_e cs]
 | .u | .sk | .i _ _ | .b _ | .s _ | .sl _ _ | .p _ _ _ | .ro _ | .nilp | .nil | .fn _ _ => rfl
theorem brwL_e {ob : List TO} : ∀ l : List V, brwL (eOs ob) (eL l) = eL (brwVL ob l)
 | [] => rfl
 | x :: l => by simp only [eL, brwL, brwVL, brw_e x, brwL_e l]
end
mutual
theorem flatV_e:∀ v:V,flatV (e v)=flatVV v
 | .agg c=>by simp only [e,flatV,flatVV,flatVL_e c]
 | .tup c=>by simp only [e,flatV,flatVV,flatVL_e c]
 | .ar _ | .p _ _ _ | .u | .sk | .i _ _ | .b _ | .s _ | .sl _ _ | .own _ _ _ | .emp _ | .ro _ | .nilp | .nil | .fn _ _=>rfl
theorem flatVL_e:∀ l:List V,flatVL (eL l)=flatVVL l
 | []=>rfl
 | x :: l=>by simp only [eL,flatVL,flatVVL,flatV_e x,flatVL_e l]
end
theorem evTL_evs {s:TS}:∀ xs:List Operand,evs (eS s).env xs=eL (evTL s xs)
 | []=>rfl
 | x :: l=>by simp only [evs,evTL,eL,e_evT,evTL_evs l]
end
structure TEnt where
 fid:Nat
 pure:Bool
 ps:List (Nat×List Nat)
 inS:SPat
 Y:Type
 F:inS.Den→Option Y
 res:Y→Option (V×List TO)
def headA : List (Nat × Pat) → List V → List V
 | [], _ => []
 | _ :: l, vs => match vs with
  | v :: vs => v :: headA l vs
  | [] => []
def argsOf (p:SPat) (x:p.Den):List V:=headA p.al (encP p.pat x)
def obsOf (p:SPat) (x:p.Den):List TO:=mkO p.ob (restA p.al (encP p.pat x))
def TEnt.W (en:TEnt):WP:=fun args ob K=>∃ x y v obs,wkL args (eL (argsOf en.inS x))∧wkObs ob (eOs (obsOf en.inS x))∧en.F x=some y∧en.res y=some (v,obs)∧K (e v) (eOs obs)
def TEnt.ent (en:TEnt) (ns:Option (List Nat)):Ent:=⟨en.pure,fun _ _=>ns,en.W⟩
section
variable {R:Type}
def ofOs:List TO→List V
 | []=>[]
 | x :: l=>ofO (some x) :: ofOs l
def eqNs:List Nat→List Nat→Bool
 | [],[]=>true
 | a :: l,b :: m=>a == b && eqNs l m
 | _,_=>false
def decIn (p:SPat) (args:List V) (obs:List TO) (K:p.Den→Option R):Option R :=
 chkO (okA p.al && args.length == p.al.length && eqNs (namesT obs) (namesP p.ob)) (decP true p.pat (args++ofOs obs) fun x q=>endT q (K x))
def resGo (en:TEnt) (y:en.Y) (K:V→List TO→Option R):Option R:=match en.res y with
 | some (v,obs)=>K v obs
 | none=>none
def frzArLT:List Nat→(TS→Option R)→TS→Option R
 | [],K,s=>K s
 | o :: l,K,s=>frzArT s o (frzArLT l K)
def callOkT (σ:Nat→Nat) (old:List Nat) (obs:List TO) (v:V):Bool :=
 subL old (namesT obs) && noDup ((namesT obs).map σ) && closedV (namesT obs) v && closedOs (namesT obs) obs && allLt (newNames σ old (namesT obs))
def afterT (σ:Nat→Nat) (old:List Nat) (s:TS) (obs:List TO) (v:V) (d:Option Tmp):TS :=
 setDT ⟨s.n,(killAllT (newNames σ old (namesT obs)) ⟨s.n,s.al,remsT (old.map σ) s.ob⟩).al,renOs σ obs++(killAllT (newNames σ old (namesT obs)) ⟨s.n,s.al,remsT (old.map σ) s.ob⟩).ob⟩ d (renV σ v)
def goT (ns:List Nat) (d:Option Tmp) (K:TS→Option R) (s:TS) (v:V) (obs:List TO):Option R :=
 chkO (callOkT (outN (slotOf d) 100000 ns) (cNames 100000 ns) obs v) (K (afterT (outN (slotOf d) 100000 ns) (cNames 100000 ns) s obs v d))
def callWT (en:TEnt) (ns:List Nat) (xs:List Operand) (caps:List V) (d:Option Tmp) (K:TS→Option R) (s:TS):Option R:=match selT ns s.ob with
 | some obs=>chkO (noDup ns && closedVL ns (evTL s xs++caps) && closedOs ns obs && !hasOwnVL (evTL s xs))
   (decIn en.inS (renVL (inN 100000 ns) (evTL s xs++caps)) (renOs (inN 100000 ns) obs) fun x=>bindO (en.F x) fun y=>resGo en y (goT ns d K s))
 | none=>none
def callF1T (en:TEnt) (ns:List Nat) (n:Nat) (f:Operand) (xs:List Operand) (d:Option Tmp) (K:TS→Option R) (s:TS):Option R:=match evT s f with
 | .fn n' caps=>chkO (n' == n) (callWT en ns xs caps d K s)
 | _=>none
def callET (en:TEnt) (n:Nat) (caps:List V) (f:Operand) (xs:List Operand) (d:Option Tmp) (K:TS→Option R) (s:TS):Option R :=
 match locsT en.ps (evTL s xs++caps) s.ob with
 | some ns=>frzArLT (arsT ns (evTL s xs++caps)) (callF1T en ns n f xs d K) s
 | none=>none
end
def vkey (n : Nat) : List V → Nat
 | [] => n
 | v :: l => match v with
  | .fn m _ => n + 1000 * (m + 1)
  | _ => vkey n l
def firstAr : List V → Nat → Option Nat
 | [], _ => none
 | v :: l, j => match v with
  | .ar _ => some j
  | _ => firstAr l (j + 1)
def skey (ob : List TO) (n : Nat) : List V → Option Nat
 | [] => none
 | v :: _ => match v with
  | .p o _ _ => match getT ob o with
   | some (.box _ cs) => match firstAr cs 0 with
    | some j => match lkV cs j with
     | .ar m => match getT ob m with
      | some (.opn _ _ _ _ _ row) => match firstAr row 0 with
       | some k => some (n + 1000000 * (j + 1) + 100000000 * (k + 1))
       | none => some (n + 1000000 * (j + 1))
      | _ => some (n + 1000000 * (j + 1))
     | _ => none
    | none => none
   | _ => none
  | _ => none
def lookE (tbl : Nat → Option TEnt) (ob : List TO) (n : Nat) (l : List V) : Option TEnt := match skey ob n l with
 | some k => match tbl k with
  | some en => some en
  | none => tbl (vkey n l)
 | none => tbl (vkey n l)
theorem lookE_some {tbl:Nat→Option TEnt} {ob:List TO} {n:Nat} {l:List V} {en:TEnt} (h:lookE tbl ob n l=some en):∃ k,tbl k=some en:=by
 unfold lookE at h
 split at h
 ·split at h
  ·rename_i h2
   rw [← h]
   exact ⟨_,h2⟩
  ·exact ⟨_,h⟩
 ·exact ⟨_,h⟩
def callTT (tbl : Nat → Option TEnt) : TCalls := fun _ f xs d s K => match evT s f with
 | .fn n caps => match lookE tbl s.ob n (evTL s xs ++ caps) with
  | some en => chkO (en.fid == n) (match en.pure with
   | true => decIn en.inS (brwVL s.ob (evTL s xs ++ caps)) [] fun x => bindO (en.F x) fun y => resGo en y fun v _ => chkO (flatVV v) (K (setDT s d v))
   | false => callET en n caps f xs d K (frzTTL s xs))
  | none => none
 | _ => none
def TbOk (P:Program) (tbl:Nat→Option TEnt):Prop:=∀ k en,tbl k=some en→CtrOk P en.fid en.W
def CallV (P:Program):CallP:=fun f xs d st K=>∃ tb,TblOk P tb∧CallT tb f xs d st K
theorem CallV.sound {P:Program}:CSound P (CallV P):=fun o c f a w0 w L st G K Q ho hc hk h=>by
 obtain ⟨tb,h1,h2⟩:=hk
 exact CallT.sound h1 o c f a w0 w L st G K Q ho hc h2 h
def tbOne (n:Nat) (en:Ent):Nat→Option Ent:=ins n en tbl0
end Go.TM
end
