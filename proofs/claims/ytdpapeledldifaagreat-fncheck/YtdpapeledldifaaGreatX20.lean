/- Part 21 of the proof that the law FnCheck holds of every input; no condition. -/
import Derived.Test.YtdpapeledldifaaGreatX19
set_option autoImplicit true
set_option relaxedAutoImplicit true
set_option linter.all false
section
namespace Go.TM
open Go.AM
mutual
def renV (σ:Nat→Nat):V→V
 | .ar n=>.ar (σ n)
 | .p n i off=>.p (σ n) i off
 | .fn f caps=>.fn f (zHn σ caps)
 | .agg cs=>.agg (zHn σ cs)
 | .tup cs=>.tup (zHn σ cs)
 | .u=>.u
 | .sk=>.sk
 | .i k n=>.i k n
 | .b x=>.b x
 | .s x=>.s x
 | .sl t r=>.sl t r
 | .own t d r=>.own t d r
 | .emp t=>.emp t
 | .ro c=>.ro c
 | .nilp=>.nilp
 | .nil=>.nil
def zHn (σ:Nat→Nat):List V→List V
 | []=>[]
 | x :: l=>renV σ x :: zHn σ l
end
def renO (σ:Nat→Nat):TO→TO
 | .box n cs=>.box (σ n) (zHn σ cs)
 | .arr n t d l=>.arr (σ n) t d l
 | .opn n t d l i cs=>.opn (σ n) t d l i (zHn σ cs)
def zUn (σ:Nat→Nat):List TO→List TO
 | []=>[]
 | x :: l=>renO σ x :: zUn σ l
mutual
def zGU (ns:List Nat):V→Bool
 | .ar n=>ns.contains n
 | .p n _ _=>ns.contains n
 | .fn _ caps=>zCt ns caps
 | .agg cs=>zCt ns cs
 | .tup cs=>zCt ns cs
 | _=>true
def zCt (ns:List Nat):List V→Bool
 | []=>true
 | x :: l=>zGU ns x && zCt ns l
end
def zFw (ns:List Nat):List TO→Bool
 | []=>true
 | x :: l=>(match x with | .box _ cs=>zCt ns cs | .arr _ _ _ _=>true | .opn _ _ _ _ _ cs=>zCt ns cs) && zFw ns l
def zCL:List TO→List Nat
 | []=>[]
 | x :: l=>x.name :: zCL l
def selT:List Nat→List TO→Option (List TO)
 | [],_=>some []
 | n :: ns,l=>match getT l n,selT ns l with
   | some x,some xs=>some (x :: xs)
   | _,_=>none
def remT (o:Nat):List TO→List TO
 | []=>[]
 | x :: l=>bif x.name == o then l else x :: remT o l
def zTa:List Nat→List TO→List TO
 | [],l=>l
 | o :: ns,l=>zTa ns (remT o l)
def zEB:List Nat→TS→TS
 | [],s=>s
 | o :: l,s=>zEB l (zHF o s)
def zIL (ob:List TO):V→List Nat→Option Nat
 | .p o _ _,[]=>some o
 | .ar o,[]=>some o
 | .p o i off,c :: cs=>match getT ob o with
   | some (.box _ row)=>(match i with
     | 0=>zIL ob (lkV row (off+c)) cs
     | _+1=>none)
   | _=>none
 | .ar o,c :: cs=>match getT ob o with
   | some (.opn _ _ _ _ _ row)=>zIL ob (lkV row c) cs
   | _=>none
 | .agg row,c :: cs=>zIL ob (lkV row c) cs
 | .fn _ row,c :: cs=>zIL ob (lkV row c) cs
 | _,_=>none
def locsT:List (Nat×List Nat)→List V→List TO→Option (List Nat)
 | [],_,_=>some []
 | p :: l,args,ob=>match zIL ob (lkV args p.1) p.2,locsT l args ob with
   | some n,some ns=>some (n :: ns)
   | _,_=>none
def arsT (ns:List Nat):List V→List Nat
 | []=>[]
 | .ar o :: l=>bif ns.contains o then arsT ns l else o :: arsT (o :: ns) l
 | _ :: l=>arsT ns l
def zGp (s:TS):List Operand→TS
 | []=>s
 | x :: l=>zGp (zMs s x) l
mutual
def brwV (ob:List TO):V→V
 | .own g _ l=>.sl g l
 | .emp g=>.sl g []
 | .ar o=>match getT ob o with
   | some (.arr _ g _ l)=>.sl g l
   | _=>.u
 | .agg cs=>.agg (zTo ob cs)
 | .tup cs=>.tup (zTo ob cs)
 | v=>v
def zTo (ob:List TO):List V→List V
 | []=>[]
 | x :: l=>brwV ob x :: zTo ob l
end
mutual
def zPx:V→Bool
 | .i _ _=>true
 | .b _=>true
 | .s _=>true
 | .agg cs=>zIM cs
 | .tup cs=>zIM cs
 | _=>false
def zIM:List V→Bool
 | []=>true
 | x :: l=>zPx x && zIM l
end
section
variable {σ:Nat→Nat}
mutual
theorem ren_e:∀ v:V,ren σ (e v)=e (renV σ v)
 | .ar _ | .p _ _ _ | .u | .sk | .i _ _ | .b _ | .s _ | .sl _ _ | .own _ _ _ | .emp _ | .ro _ | .nilp | .nil=>rfl
 | .fn f c=>by simp only [e,ren,renV,zHs c]
 | .agg c=>by simp only [e,ren,renV,zHs c]
 | .tup c=>by simp only [e,ren,renV,zHs c]
theorem zHs:∀ l:List V,renL σ (eL l)=eL (zHn σ l)
 | []=>rfl
 | x :: l=>by simp only [eL,renL,zHn,ren_e x,zHs l]
end
theorem zGc:∀ l:List V,(zHn σ l).length=l.length
 | []=>rfl
 | x :: l=>by simp only [zHn,List.length_cons,zGc l]
theorem ren_id:∀ v:SV,plain v=true→ren σ v=v
 | .i _ _,_=>rfl
 | .b _,_=>rfl
 | .s _,_=>rfl
 | .sl _ _,_=>rfl
 | .own _ _,_=>rfl
 | .nil,_=>rfl
 | .u,_=>rfl
 | .sk,_=>rfl
 | .nilp,_=>rfl
 | .ar _,h=>by simp [plain] at h
 | .p _ _ _,h=>by simp [plain] at h
 | .ro _,h=>by simp [plain] at h
 | .fn _ _,h=>by simp [plain] at h
 | .agg _,h=>by simp [plain] at h
 | .tup _,h=>by simp [plain] at h
theorem zUo:∀ l:List SV,zBh l=true→renL σ l=l
 | [],_=>rfl
 | x :: l,h=>by
   simp only [zBh,Bool.and_eq_true] at h
   simp only [renL,ren_id x h.1,zUo l h.2]
theorem zHr (t:GT) (d:Bool):∀ l:List t.Den,zAw σ (l.map (encC d t))=l.map (encC d t)
 | []=>rfl
 | x :: l=>by simp only [List.map_cons,zAw,zUo _ (zDF t d x),zHr t d l]
theorem zHo:∀ (rows:List (List SV)) (i:Nat) (r:List SV),zAw σ (rows.set i r)=(zAw σ rows).set i (renL σ r)
 | [],i,r=>rfl
 | x :: l,0,r=>rfl
 | x :: l,i+1,r=>by simp only [List.set_cons_succ,zAw,zHo l i r]
theorem renO_e (x:TO):zHE σ (eO x)=eO (renO σ x):=by
 cases x with
 | box n cs=>simp only [eO,zHE,renO,if_true,zAw,zHs,zGc]
 | arr n t d l=>simp only [eO,zHE,renO,Bool.false_eq_true,if_false]
 | opn n t d l i cs=>simp only [eO,zHE,renO,if_true,zHo,zHr,zHs]
theorem zRB:∀ l:List TO,zBz σ (eOs l)=eOs (zUn σ l)
 | []=>rfl
 | x :: l=>by simp only [eOs,zBz,zUn,renO_e,zRB l]
mutual
theorem zTA (ns:List Nat):∀ v:V,closed ns (e v)=zGU ns v
 | .ar _ | .p _ _ _ | .u | .sk | .i _ _ | .b _ | .s _ | .sl _ _ | .own _ _ _ | .emp _ | .ro _ | .nilp | .nil=>rfl
 | .fn f c=>by simp only [e,closed,zGU,zDM ns c]
 | .agg c=>by simp only [e,closed,zGU,zDM ns c]
 | .tup c=>by simp only [e,closed,zGU,zDM ns c]
theorem zDM (ns:List Nat):∀ l:List V,zBv ns (eL l)=zCt ns l
 | []=>rfl
 | x :: l=>by simp only [eL,zBv,zCt,zTA ns x,zDM ns l]
end
theorem zQF (ns:List Nat):∀ v:SV,plain v=true→closed ns v=true
 | .i _ _,_ | .b _,_ | .s _,_ | .sl _ _,_ | .own _ _,_ | .nil,_ | .u,_ | .sk,_ | .nilp,_=>rfl
 | .ar _,h=>by simp [plain] at h
 | .p _ _ _,h=>by simp [plain] at h
 | .ro _,h=>by simp [plain] at h
 | .fn _ _,h=>by simp [plain] at h
 | .agg _,h=>by simp [plain] at h
 | .tup _,h=>by simp [plain] at h
theorem zEK (ns:List Nat):∀ l:List SV,zBh l=true→zBv ns l=true
 | [],_=>rfl
 | x :: l,h=>by
   simp only [zBh,Bool.and_eq_true] at h
   simp only [zBv,zQF ns x h.1,zEK ns l h.2,Bool.and_self]
theorem zFA (ns:List Nat) (t:GT) (d:Bool) (r:List SV) (hr:zBv ns r=true):∀ (l:List t.Den) (i:Nat),zBF ns ((l.map (encC d t)).set i r)=true
 | [],i=>rfl
 | x :: l,0=>by
   have:∀ l:List t.Den,zBF ns (l.map (encC d t))=true:=fun l=>by
    induction l with
    | nil=>rfl
    | cons y l ih=>simp only [List.map_cons,zBF,zEK ns _ (zDF t d y),ih,Bool.and_self]
   simp only [List.map_cons,List.set_cons_zero,zBF,hr,this l,Bool.and_self]
 | x :: l,i+1=>by simp only [List.map_cons,List.set_cons_succ,zBF,zEK ns _ (zDF t d x),zFA ns t d r hr l i,Bool.and_self]
theorem zGV (ns:List Nat):∀ l:List TO,zFw ns l=true→zCI ns (eOs l)=true
 | [],_=>rfl
 | x :: l,h=>by
   simp only [zFw,Bool.and_eq_true] at h
   simp only [eOs,zCI,zGV ns l h.2,Bool.and_true]
   have h1:=h.1
   cases x with
   | box n cs=>simp only at h1;simp only [eO,if_true,zBF,zDM,h1,Bool.and_true]
   | arr n t d l=>simp only [eO,Bool.false_eq_true,if_false]
   | opn n t d l i cs=>simp only at h1;simp only [eO,if_true];exact zFA ns t d _ (by rw [zDM];exact h1) l i
theorem zMl:∀ l:List TO,names (eOs l)=zCL l
 | []=>rfl
 | x :: l=>by
   have:=zMl l
   simp only [names] at this
   simp only [eOs,names,zCL,List.map_cons,this,zEJ]
theorem zUi:∀ (ns:List Nat) (l:List TO) (xs:List TO),selT ns l=some xs→zBy ns (eOs l)=some (eOs xs)
 | [],l,xs,h=>by simp only [selT,Option.some.injEq] at h;subst h;rfl
 | n :: ns,l,xs,h=>by
   simp only [selT] at h
   split at h
   ·rename_i x xs' hx hxs
    simp only [Option.some.injEq] at h
    subst h
    simp only [zBy,zEE,hx,Option.map_some,zUi ns l xs' hxs,eOs]
   ·cases h
theorem remT_e (o:Nat):∀ l:List TO,zFf o (eOs l)=eOs (remT o l)
 | []=>rfl
 | x :: l=>by
   simp only [eOs,zFf,remT,zEJ]
   by_cases h:x.name=o
   ·simp [h]
   ·have h':(x.name == o)=false:=by simpa using h
    simp only [h,if_false,h',cond_false,eOs,remT_e o l]
theorem zUp:∀ (ns:List Nat) (l:List TO),zEb ns (eOs l)=eOs (zTa ns l)
 | [],_=>rfl
 | o :: ns,l=>by simp only [zEb,zTa,remT_e,zUp ns]
theorem zJE:∀ (ns:List Nat) (s:TS),zFR ns (eS s)=eS (zEB ns s)
 | [],_=>rfl
 | o :: ns,s=>by simp only [zFR,zEB,zEs,zJE ns]
theorem zVz:∀ (l:List V) (ns:List Nat),zRm ns (eL l)=arsT ns l
 | [],_=>rfl
 | x :: l,ns=>by
   cases x with
   | ar o=>simp only [eL,e,zRm,arsT,zVz l]
   | _=>simp only [eL,e,zRm,arsT,zVz l]
theorem zSr:∀ (l:List Operand) (s:TS),frzTL (eS s) l=eS (zGp s l)
 | [],_=>rfl
 | x :: l,s=>by simp only [frzTL,zGp,zVg,zSr l]
mutual
theorem brw_e {ob:List TO}:∀ v:V,brw (eOs ob) (e v)=e (brwV ob v)
 | .own g d l=>by simp only [e,brw,brwV,zCd]
 | .emp g=>rfl
 | .ar o=>by
   simp only [e,brw,brwV,zEE]
   cases getT ob o with
   | none=>rfl
   | some x =>
     cases x with
     | box n cs=>simp only [Option.map_some,eO,e]
     | arr n g d l=>simp only [Option.map_some,eO,e,zCd]
     | opn n g d l i cs=>simp only [Option.map_some,eO,e]
 | .agg cs=>by simp only [e,brw,brwV,zTF cs]
 | .tup cs=>by simp only [e,brw,brwV,zTF cs]
 | .u | .sk | .i _ _ | .b _ | .s _ | .sl _ _ | .p _ _ _ | .ro _ | .nilp | .nil | .fn _ _=>rfl
theorem zTF {ob:List TO}:∀ l:List V,brwL (eOs ob) (eL l)=eL (zTo ob l)
 | []=>rfl
 | x :: l=>by simp only [eL,brwL,zTo,brw_e x,zTF l]
end
mutual
theorem zVk:∀ v:V,zMw (e v)=zPx v
 | .agg c=>by simp only [e,zMw,zPx,zMv c]
 | .tup c=>by simp only [e,zMw,zPx,zMv c]
 | .ar _ | .p _ _ _ | .u | .sk | .i _ _ | .b _ | .s _ | .sl _ _ | .own _ _ _ | .emp _ | .ro _ | .nilp | .nil | .fn _ _=>rfl
theorem zMv:∀ l:List V,zIN (eL l)=zIM l
 | []=>rfl
 | x :: l=>by simp only [eL,zIN,zIM,zVk x,zMv l]
end
theorem zHM {s:TS}:∀ xs:List Operand,evs (eS s).env xs=eL (evTL s xs)
 | []=>rfl
 | x :: l=>by simp only [evs,evTL,eL,zAn,zHM l]
end
structure TEnt where
 fid:Nat
 pure:Bool
 ps:List (Nat×List Nat)
 inS:SPat
 Y:Type
 F:inS.Den→Option Y
 res:Y→Option (V×List TO)
def zRV:List (Nat×Pat)→List V→List V
 | [],_=>[]
 | _ :: l,vs=>match vs with
   | v :: vs=>v :: zRV l vs
   | []=>[]
def zJP (p:SPat) (x:p.Den):List V:=zRV p.al (encP p.pat x)
def zTf (p:SPat) (x:p.Den):List TO:=mkO p.ob (zMU p.al (encP p.pat x))
def TEnt.W (en:TEnt):WP:=fun args ob K=>∃ x y v obs,wkL args (eL (zJP en.inS x))∧wkObs ob (eOs (zTf en.inS x))∧en.F x=some y∧en.res y=some (v,obs)∧K (e v) (eOs obs)
def TEnt.ent (en:TEnt) (ns:Option (List Nat)):Ent:=⟨en.pure,fun _ _=>ns,en.W⟩
section
variable {R:Type}
def ofOs:List TO→List V
 | []=>[]
 | x :: l=>ofO (some x) :: ofOs l
def eqNs:List Nat→List Nat→Bool
 | [],[]=>true
 | a :: l,b :: m=>a == b && eqNs l m
 | _,_=>false
def decIn (p:SPat) (args:List V) (obs:List TO) (K:p.Den→Option R):Option R :=
 chkO (okA p.al && args.length == p.al.length && eqNs (zCL obs) (zCM p.ob)) (decP true p.pat (args++ofOs obs) fun x q=>endT q (K x))
def resGo (en:TEnt) (y:en.Y) (K:V→List TO→Option R):Option R:=match en.res y with
 | some (v,obs)=>K v obs
 | none=>none
def zMt:List Nat→(TS→Option R)→TS→Option R
 | [],K,s=>K s
 | o :: l,K,s=>zGr s o (zMt l K)
def zVw (σ:Nat→Nat) (old:List Nat) (obs:List TO) (v:V):Bool :=
 subL old (zCL obs) && zFi ((zCL obs).map σ) && zGU (zCL obs) v && zFw (zCL obs) obs && zWC (zBt σ old (zCL obs))
def zWD (σ:Nat→Nat) (old:List Nat) (s:TS) (obs:List TO) (v:V) (d:Option Tmp):TS :=
 zAd ⟨s.n,(zEB (zBt σ old (zCL obs)) ⟨s.n,s.al,zTa (old.map σ) s.ob⟩).al,zUn σ obs++(zEB (zBt σ old (zCL obs)) ⟨s.n,s.al,zTa (old.map σ) s.ob⟩).ob⟩ d (renV σ v)
def goT (ns:List Nat) (d:Option Tmp) (K:TS→Option R) (s:TS) (v:V) (obs:List TO):Option R :=
 chkO (zVw (outN (zDD d) 100000 ns) (zET 100000 ns) obs v) (K (zWD (outN (zDD d) 100000 ns) (zET 100000 ns) s obs v d))
def zVu (en:TEnt) (ns:List Nat) (xs:List Operand) (caps:List V) (d:Option Tmp) (K:TS→Option R) (s:TS):Option R:=match selT ns s.ob with
 | some obs=>chkO (zFi ns && zCt ns (evTL s xs++caps) && zFw ns obs && !zCr (evTL s xs))
   (decIn en.inS (zHn (inN 100000 ns) (evTL s xs++caps)) (zUn (inN 100000 ns) obs) fun x=>zAA (en.F x) fun y=>resGo en y (goT ns d K s))
 | none=>none
def zRk (en:TEnt) (ns:List Nat) (n:Nat) (f:Operand) (xs:List Operand) (d:Option Tmp) (K:TS→Option R) (s:TS):Option R:=match evT s f with
 | .fn n' caps=>chkO (n' == n) (zVu en ns xs caps d K s)
 | _=>none
def callET (en:TEnt) (n:Nat) (caps:List V) (f:Operand) (xs:List Operand) (d:Option Tmp) (K:TS→Option R) (s:TS):Option R :=
 match locsT en.ps (evTL s xs++caps) s.ob with
 | some ns=>zMt (arsT ns (evTL s xs++caps)) (zRk en ns n f xs d K) s
 | none=>none
end
def vkey (n:Nat):List V→Nat
 | []=>n
 | v :: l=>match v with
   | .fn m _=>n+1000*(m+1)
   | _=>vkey n l
def zRb:List V→Nat→Option Nat
 | [],_=>none
 | v :: l,j=>match v with
   | .ar _=>some j
   | _=>zRb l (j+1)
def skey (ob:List TO) (n:Nat):List V→Option Nat
 | []=>none
 | v :: _=>match v with
   | .p o _ _=>match getT ob o with
     | some (.box _ cs)=>match zRb cs 0 with
       | some j=>match lkV cs j with
         | .ar m=>match getT ob m with
           | some (.opn _ _ _ _ _ row)=>match zRb row 0 with
             | some k=>some (n+1000000*(j+1)+100000000*(k+1))
             | none=>some (n+1000000*(j+1))
           | _=>some (n+1000000*(j+1))
         | _=>none
       | none=>none
     | _=>none
   | _=>none
def lookE (tbl:Nat→Option TEnt) (ob:List TO) (n:Nat) (l:List V):Option TEnt:=match skey ob n l with
 | some k=>match tbl k with
   | some en=>some en
   | none=>tbl (vkey n l)
 | none=>tbl (vkey n l)
theorem zTh {tbl:Nat→Option TEnt} {ob:List TO} {n:Nat} {l:List V} {en:TEnt} (h:lookE tbl ob n l=some en):∃ k,tbl k=some en:=by
 unfold lookE at h
 split at h
 ·split at h
  ·rename_i h2
   rw [← h]
   exact ⟨_,h2⟩
  ·exact ⟨_,h⟩
 ·exact ⟨_,h⟩
def zVv (tbl:Nat→Option TEnt):zFD:=fun _ f xs d s K=>match evT s f with
 | .fn n caps=>match lookE tbl s.ob n (evTL s xs++caps) with
   | some en=>chkO (en.fid == n) (match en.pure with
     | true=>decIn en.inS (zTo s.ob (evTL s xs++caps)) [] fun x=>zAA (en.F x) fun y=>resGo en y fun v _=>chkO (zPx v) (K (zAd s d v))
     | false=>callET en n caps f xs d K (zGp s xs))
   | none=>none
 | _=>none
def TbOk (P:Program) (tbl:Nat→Option TEnt):Prop:=∀ k en,tbl k=some en→zHG P en.fid en.W
def CallV (P:Program):zAr:=fun f xs d st K=>∃ tb,zQM P tb∧zRp tb f xs d st K
theorem CallV.sound {P:Program}:zFE P (CallV P):=fun o c f a w0 w L st G K Q ho hc hk h=>by
 obtain ⟨tb,h1,h2⟩:=hk
 exact zRp.sound h1 o c f a w0 w L st G K Q ho hc h2 h
def tbOne (n:Nat) (en:Ent):Nat→Option Ent:=ins n en tbl0
end Go.TM
end
