/- Part 21 of the proof that the law FnFileGet holds of every input; no condition. -/
import Derived.Test.YtdpapeledldifaaGreatX19
set_option autoImplicit true
set_option relaxedAutoImplicit true
set_option linter.all false
section
namespace Go.TM
open Go.AM
mutual
def renV (σ:Nat→Nat):V→V
 | .ar n=>.ar (σ n)
 | .p n i off=>.p (σ n) i off
 | .fn f caps=>.fn f (zHU σ caps)
 | .agg cs=>.agg (zHU σ cs)
 | .tup cs=>.tup (zHU σ cs)
 | .u=>.u
 | .sk=>.sk
 | .i k n=>.i k n
 | .b x=>.b x
 | .s x=>.s x
 | .sl t r=>.sl t r
 | .own t d r=>.own t d r
 | .emp t=>.emp t
 | .ro c=>.ro c
 | .nilp=>.nilp
 | .nil=>.nil
def zHU (σ:Nat→Nat):List V→List V
 | []=>[]
 | x :: l=>renV σ x :: zHU σ l
end
def renO (σ:Nat→Nat):TO→TO
 | .box n cs=>.box (σ n) (zHU σ cs)
 | .arr n t d l=>.arr (σ n) t d l
 | .opn n t d l i cs=>.opn (σ n) t d l i (zHU σ cs)
def zTK (σ:Nat→Nat):List TO→List TO
 | []=>[]
 | x :: l=>renO σ x :: zTK σ l
mutual
def zGJ (ns:List Nat):V→Bool
 | .ar n=>ns.contains n
 | .p n _ _=>ns.contains n
 | .fn _ caps=>zCg ns caps
 | .agg cs=>zCg ns cs
 | .tup cs=>zCg ns cs
 | _=>true
def zCg (ns:List Nat):List V→Bool
 | []=>true
 | x :: l=>zGJ ns x && zCg ns l
end
def zFo (ns:List Nat):List TO→Bool
 | []=>true
 | x :: l=>(match x with | .box _ cs=>zCg ns cs | .arr _ _ _ _=>true | .opn _ _ _ _ _ cs=>zCg ns cs) && zFo ns l
def zBz:List TO→List Nat
 | []=>[]
 | x :: l=>x.name :: zBz l
def selT:List Nat→List TO→Option (List TO)
 | [],_=>some []
 | n :: ns,l=>match getT l n,selT ns l with
   | some x,some xs=>some (x :: xs)
   | _,_=>none
def remT (o:Nat):List TO→List TO
 | []=>[]
 | x :: l=>bif x.name == o then l else x :: remT o l
def zRz:List Nat→List TO→List TO
 | [],l=>l
 | o :: ns,l=>zRz ns (remT o l)
def zDq:List Nat→TS→TS
 | [],s=>s
 | o :: l,s=>zDq l (zGq o s)
def zHr (ob:List TO):V→List Nat→Option Nat
 | .p o _ _,[]=>some o
 | .ar o,[]=>some o
 | .p o i off,c :: cs=>match getT ob o with
   | some (.box _ row)=>(match i with
     | 0=>zHr ob (lkV row (off+c)) cs
     | _+1=>none)
   | _=>none
 | .ar o,c :: cs=>match getT ob o with
   | some (.opn _ _ _ _ _ row)=>zHr ob (lkV row c) cs
   | _=>none
 | .agg row,c :: cs=>zHr ob (lkV row c) cs
 | .fn _ row,c :: cs=>zHr ob (lkV row c) cs
 | _,_=>none
def locsT:List (Nat×List Nat)→List V→List TO→Option (List Nat)
 | [],_,_=>some []
 | p :: l,args,ob=>match zHr ob (lkV args p.1) p.2,locsT l args ob with
   | some n,some ns=>some (n :: ns)
   | _,_=>none
def arsT (ns:List Nat):List V→List Nat
 | []=>[]
 | .ar o :: l=>bif ns.contains o then arsT ns l else o :: arsT (o :: ns) l
 | _ :: l=>arsT ns l
def zGf (s:TS):List Operand→TS
 | []=>s
 | x :: l=>zGf (zMQ s x) l
mutual
def brwV (ob:List TO):V→V
 | .own g _ l=>.sl g l
 | .emp g=>.sl g []
 | .ar o=>match getT ob o with
   | some (.arr _ g _ l)=>.sl g l
   | _=>.u
 | .agg cs=>.agg (zSQ ob cs)
 | .tup cs=>.tup (zSQ ob cs)
 | v=>v
def zSQ (ob:List TO):List V→List V
 | []=>[]
 | x :: l=>brwV ob x :: zSQ ob l
end
mutual
def zOv:V→Bool
 | .i _ _=>true
 | .b _=>true
 | .s _=>true
 | .agg cs=>zHs cs
 | .tup cs=>zHs cs
 | _=>false
def zHs:List V→Bool
 | []=>true
 | x :: l=>zOv x && zHs l
end
section
variable {σ:Nat→Nat}
mutual
theorem ren_e:∀ v:V,ren σ (e v)=e (renV σ v)
 | .ar _ | .p _ _ _ | .u | .sk | .i _ _ | .b _ | .s _ | .sl _ _ | .own _ _ _ | .emp _ | .ro _ | .nilp | .nil=>rfl
 | .fn f c=>by simp only [e,ren,renV,zHZ c]
 | .agg c=>by simp only [e,ren,renV,zHZ c]
 | .tup c=>by simp only [e,ren,renV,zHZ c]
theorem zHZ:∀ l:List V,renL σ (eL l)=eL (zHU σ l)
 | []=>rfl
 | x :: l=>by simp only [eL,renL,zHU,ren_e x,zHZ l]
end
theorem zGS:∀ l:List V,(zHU σ l).length=l.length
 | []=>rfl
 | x :: l=>by simp only [zHU,List.length_cons,zGS l]
theorem ren_id:∀ v:SV,plain v=true→ren σ v=v
 | .i _ _,_=>rfl
 | .b _,_=>rfl
 | .s _,_=>rfl
 | .sl _ _,_=>rfl
 | .own _ _,_=>rfl
 | .nil,_=>rfl
 | .u,_=>rfl
 | .sk,_=>rfl
 | .nilp,_=>rfl
 | .ar _,h=>by simp [plain] at h
 | .p _ _ _,h=>by simp [plain] at h
 | .ro _,h=>by simp [plain] at h
 | .fn _ _,h=>by simp [plain] at h
 | .agg _,h=>by simp [plain] at h
 | .tup _,h=>by simp [plain] at h
theorem zTL:∀ l:List SV,zBY l=true→renL σ l=l
 | [],_=>rfl
 | x :: l,h=>by
   simp only [zBY,Bool.and_eq_true] at h
   simp only [renL,ren_id x h.1,zTL l h.2]
theorem zHY (t:GT) (d:Bool):∀ l:List t.Den,zAp σ (l.map (encC d t))=l.map (encC d t)
 | []=>rfl
 | x :: l=>by simp only [List.map_cons,zAp,zTL _ (zCt t d x),zHY t d l]
theorem zHV:∀ (rows:List (List SV)) (i:Nat) (r:List SV),zAp σ (rows.set i r)=(zAp σ rows).set i (renL σ r)
 | [],i,r=>rfl
 | x :: l,0,r=>rfl
 | x :: l,i+1,r=>by simp only [List.set_cons_succ,zAp,zHV l i r]
theorem renO_e (x:TO):zGp σ (eO x)=eO (renO σ x):=by
 cases x with
 | box n cs=>simp only [eO,zGp,renO,if_true,zAp,zHZ,zGS]
 | arr n t d l=>simp only [eO,zGp,renO,Bool.false_eq_true,if_false]
 | opn n t d l i cs=>simp only [eO,zGp,renO,if_true,zHV,zHY,zHZ]
theorem zPx:∀ l:List TO,zBp σ (eOs l)=eOs (zTK σ l)
 | []=>rfl
 | x :: l=>by simp only [eOs,zBp,zTK,renO_e,zPx l]
mutual
theorem zRd (ns:List Nat):∀ v:V,closed ns (e v)=zGJ ns v
 | .ar _ | .p _ _ _ | .u | .sk | .i _ _ | .b _ | .s _ | .sl _ _ | .own _ _ _ | .emp _ | .ro _ | .nilp | .nil=>rfl
 | .fn f c=>by simp only [e,closed,zGJ,zCx ns c]
 | .agg c=>by simp only [e,closed,zGJ,zCx ns c]
 | .tup c=>by simp only [e,closed,zGJ,zCx ns c]
theorem zCx (ns:List Nat):∀ l:List V,zBk ns (eL l)=zCg ns l
 | []=>rfl
 | x :: l=>by simp only [eL,zBk,zCg,zRd ns x,zCx ns l]
end
theorem zPD (ns:List Nat):∀ v:SV,plain v=true→closed ns v=true
 | .i _ _,_ | .b _,_ | .s _,_ | .sl _ _,_ | .own _ _,_ | .nil,_ | .u,_ | .sk,_ | .nilp,_=>rfl
 | .ar _,h=>by simp [plain] at h
 | .p _ _ _,h=>by simp [plain] at h
 | .ro _,h=>by simp [plain] at h
 | .fn _ _,h=>by simp [plain] at h
 | .agg _,h=>by simp [plain] at h
 | .tup _,h=>by simp [plain] at h
theorem zDy (ns:List Nat):∀ l:List SV,zBY l=true→zBk ns l=true
 | [],_=>rfl
 | x :: l,h=>by
   simp only [zBY,Bool.and_eq_true] at h
   simp only [zBk,zPD ns x h.1,zDy ns l h.2,Bool.and_self]
theorem zEu (ns:List Nat) (t:GT) (d:Bool) (r:List SV) (hr:zBk ns r=true):∀ (l:List t.Den) (i:Nat),zAz ns ((l.map (encC d t)).set i r)=true
 | [],i=>rfl
 | x :: l,0=>by
   have:∀ l:List t.Den,zAz ns (l.map (encC d t))=true:=fun l=>by
    induction l with
    | nil=>rfl
    | cons y l ih=>simp only [List.map_cons,zAz,zDy ns _ (zCt t d y),ih,Bool.and_self]
   simp only [List.map_cons,List.set_cons_zero,zAz,hr,this l,Bool.and_self]
 | x :: l,i+1=>by simp only [List.map_cons,List.set_cons_succ,zAz,zDy ns _ (zCt t d x),zEu ns t d r hr l i,Bool.and_self]
theorem zGK (ns:List Nat):∀ l:List TO,zFo ns l=true→zBw ns (eOs l)=true
 | [],_=>rfl
 | x :: l,h=>by
   simp only [zFo,Bool.and_eq_true] at h
   simp only [eOs,zBw,zGK ns l h.2,Bool.and_true]
   have h1:=h.1
   cases x with
   | box n cs=>simp only at h1;simp only [eO,if_true,zAz,zCx,h1,Bool.and_true]
   | arr n t d l=>simp only [eO,Bool.false_eq_true,if_false]
   | opn n t d l i cs=>simp only at h1;simp only [eO,if_true];exact zEu ns t d _ (by rw [zCx];exact h1) l i
theorem zMJ:∀ l:List TO,names (eOs l)=zBz l
 | []=>rfl
 | x :: l=>by
   have:=zMJ l
   simp only [names] at this
   simp only [eOs,names,zBz,List.map_cons,this,zDx]
theorem zTG:∀ (ns:List Nat) (l:List TO) (xs:List TO),selT ns l=some xs→zBo ns (eOs l)=some (eOs xs)
 | [],l,xs,h=>by simp only [selT,Option.some.injEq] at h;subst h;rfl
 | n :: ns,l,xs,h=>by
   simp only [selT] at h
   split at h
   ·rename_i x xs' hx hxs
    simp only [Option.some.injEq] at h
    subst h
    simp only [zBo,zDs,hx,Option.map_some,zTG ns l xs' hxs,eOs]
   ·cases h
theorem remT_e (o:Nat):∀ l:List TO,zFa o (eOs l)=eOs (remT o l)
 | []=>rfl
 | x :: l=>by
   simp only [eOs,zFa,remT,zDx]
   by_cases h:x.name=o
   ·simp [h]
   ·have h':(x.name == o)=false:=by simpa using h
    simp only [h,if_false,h',cond_false,eOs,remT_e o l]
theorem zTM:∀ (ns:List Nat) (l:List TO),zEO ns (eOs l)=eOs (zRz ns l)
 | [],_=>rfl
 | o :: ns,l=>by simp only [zEO,zRz,remT_e,zTM ns]
theorem zIn:∀ (ns:List Nat) (s:TS),zFM ns (eS s)=eS (zDq ns s)
 | [],_=>rfl
 | o :: ns,s=>by simp only [zFM,zDq,zEm,zIn ns]
theorem zUU:∀ (l:List V) (ns:List Nat),zQh ns (eL l)=arsT ns l
 | [],_=>rfl
 | x :: l,ns=>by
   cases x with
   | ar o=>simp only [eL,e,zQh,arsT,zUU l]
   | _=>simp only [eL,e,zQh,arsT,zUU l]
theorem zRT:∀ (l:List Operand) (s:TS),frzTL (eS s) l=eS (zGf s l)
 | [],_=>rfl
 | x :: l,s=>by simp only [frzTL,zGf,zTz,zRT l]
mutual
theorem brw_e {ob:List TO}:∀ v:V,brw (eOs ob) (e v)=e (brwV ob v)
 | .own g d l=>by simp only [e,brw,brwV,zCT]
 | .emp g=>rfl
 | .ar o=>by
   simp only [e,brw,brwV,zDs]
   cases getT ob o with
   | none=>rfl
   | some x =>
     cases x with
     | box n cs=>simp only [Option.map_some,eO,e]
     | arr n g d l=>simp only [Option.map_some,eO,e,zCT]
     | opn n g d l i cs=>simp only [Option.map_some,eO,e]
 | .agg cs=>by simp only [e,brw,brwV,zRi cs]
 | .tup cs=>by simp only [e,brw,brwV,zRi cs]
 | .u | .sk | .i _ _ | .b _ | .s _ | .sl _ _ | .p _ _ _ | .ro _ | .nilp | .nil | .fn _ _=>rfl
theorem zRi {ob:List TO}:∀ l:List V,brwL (eOs ob) (eL l)=eL (zSQ ob l)
 | []=>rfl
 | x :: l=>by simp only [eL,brwL,zSQ,brw_e x,zRi l]
end
mutual
theorem zUD:∀ v:V,zMU (e v)=zOv v
 | .agg c=>by simp only [e,zMU,zOv,zMT c]
 | .tup c=>by simp only [e,zMU,zOv,zMT c]
 | .ar _ | .p _ _ _ | .u | .sk | .i _ _ | .b _ | .s _ | .sl _ _ | .own _ _ _ | .emp _ | .ro _ | .nilp | .nil | .fn _ _=>rfl
theorem zMT:∀ l:List V,zHt (eL l)=zHs l
 | []=>rfl
 | x :: l=>by simp only [eL,zHt,zHs,zUD x,zMT l]
end
theorem zGv {s:TS}:∀ xs:List Operand,evs (eS s).env xs=eL (evTL s xs)
 | []=>rfl
 | x :: l=>by simp only [evs,evTL,eL,zAj,zGv l]
end
structure TEnt where
 fid:Nat
 pure:Bool
 ps:List (Nat×List Nat)
 inS:SPat
 Y:Type
 F:inS.Den→Option Y
 res:Y→Option (V×List TO)
def zQQ:List (Nat×Pat)→List V→List V
 | [],_=>[]
 | _ :: l,vs=>match vs with
   | v :: vs=>v :: zQQ l vs
   | []=>[]
def zIz (p:SPat) (x:p.Den):List V:=zQQ p.al (encP p.pat x)
def zSE (p:SPat) (x:p.Den):List TO:=mkO p.ob (zLv p.al (encP p.pat x))
def TEnt.W (en:TEnt):WP:=fun args ob K=>∃ x y v obs,wkL args (eL (zIz en.inS x))∧wkObs ob (eOs (zSE en.inS x))∧en.F x=some y∧en.res y=some (v,obs)∧K (e v) (eOs obs)
def TEnt.ent (en:TEnt) (ns:Option (List Nat)):Ent:=⟨en.pure,fun _ _=>ns,en.W⟩
section
variable {R:Type}
def ofOs:List TO→List V
 | []=>[]
 | x :: l=>ofO (some x) :: ofOs l
def eqNs:List Nat→List Nat→Bool
 | [],[]=>true
 | a :: l,b :: m=>a == b && eqNs l m
 | _,_=>false
def decIn (p:SPat) (args:List V) (obs:List TO) (K:p.Den→Option R):Option R :=
 chkO (okA p.al && args.length == p.al.length && eqNs (zBz obs) (zCA p.ob)) (decP true p.pat (args++ofOs obs) fun x q=>endT q (K x))
def resGo (en:TEnt) (y:en.Y) (K:V→List TO→Option R):Option R:=match en.res y with
 | some (v,obs)=>K v obs
 | none=>none
def zMR:List Nat→(TS→Option R)→TS→Option R
 | [],K,s=>K s
 | o :: l,K,s=>zGh s o (zMR l K)
def zUR (σ:Nat→Nat) (old:List Nat) (obs:List TO) (v:V):Bool :=
 subL old (zBz obs) && zFd ((zBz obs).map σ) && zGJ (zBz obs) v && zFo (zBz obs) obs && zUY (zBi σ old (zBz obs))
def zUZ (σ:Nat→Nat) (old:List Nat) (s:TS) (obs:List TO) (v:V) (d:Option Tmp):TS :=
 zAb ⟨s.n,(zDq (zBi σ old (zBz obs)) ⟨s.n,s.al,zRz (old.map σ) s.ob⟩).al,zTK σ obs++(zDq (zBi σ old (zBz obs)) ⟨s.n,s.al,zRz (old.map σ) s.ob⟩).ob⟩ d (renV σ v)
def goT (ns:List Nat) (d:Option Tmp) (K:TS→Option R) (s:TS) (v:V) (obs:List TO):Option R :=
 chkO (zUR (outN (zCr d) 100000 ns) (zEG 100000 ns) obs v) (K (zUZ (outN (zCr d) 100000 ns) (zEG 100000 ns) s obs v d))
def zUP (en:TEnt) (ns:List Nat) (xs:List Operand) (caps:List V) (d:Option Tmp) (K:TS→Option R) (s:TS):Option R:=match selT ns s.ob with
 | some obs=>chkO (zFd ns && zCg ns (evTL s xs++caps) && zFo ns obs && !zCe (evTL s xs))
   (decIn en.inS (zHU (inN 100000 ns) (evTL s xs++caps)) (zTK (inN 100000 ns) obs) fun x=>zAA (en.F x) fun y=>resGo en y (goT ns d K s))
 | none=>none
def zQf (en:TEnt) (ns:List Nat) (n:Nat) (f:Operand) (xs:List Operand) (d:Option Tmp) (K:TS→Option R) (s:TS):Option R:=match evT s f with
 | .fn n' caps=>chkO (n' == n) (zUP en ns xs caps d K s)
 | _=>none
def callET (en:TEnt) (n:Nat) (caps:List V) (f:Operand) (xs:List Operand) (d:Option Tmp) (K:TS→Option R) (s:TS):Option R :=
 match locsT en.ps (evTL s xs++caps) s.ob with
 | some ns=>zMR (arsT ns (evTL s xs++caps)) (zQf en ns n f xs d K) s
 | none=>none
end
def vkey (n:Nat):List V→Nat
 | []=>n
 | v :: l=>match v with
   | .fn m _=>n+1000*(m+1)
   | _=>vkey n l
def zQW:List V→Nat→Option Nat
 | [],_=>none
 | v :: l,j=>match v with
   | .ar _=>some j
   | _=>zQW l (j+1)
def skey (ob:List TO) (n:Nat):List V→Option Nat
 | []=>none
 | v :: _=>match v with
   | .p o _ _=>match getT ob o with
     | some (.box _ cs)=>match zQW cs 0 with
       | some j=>match lkV cs j with
         | .ar m=>match getT ob m with
           | some (.opn _ _ _ _ _ row)=>match zQW row 0 with
             | some k=>some (n+1000000*(j+1)+100000000*(k+1))
             | none=>some (n+1000000*(j+1))
           | _=>some (n+1000000*(j+1))
         | _=>none
       | none=>none
     | _=>none
   | _=>none
def lookE (tbl:Nat→Option TEnt) (ob:List TO) (n:Nat) (l:List V):Option TEnt:=match skey ob n l with
 | some k=>match tbl k with
   | some en=>some en
   | none=>tbl (vkey n l)
 | none=>tbl (vkey n l)
theorem zSH {tbl:Nat→Option TEnt} {ob:List TO} {n:Nat} {l:List V} {en:TEnt} (h:lookE tbl ob n l=some en):∃ k,tbl k=some en:=by
 unfold lookE at h
 split at h
 ·split at h
  ·rename_i h2
   rw [← h]
   exact ⟨_,h2⟩
  ·exact ⟨_,h⟩
 ·exact ⟨_,h⟩
def zUQ (tbl:Nat→Option TEnt):zEy:=fun _ f xs d s K=>match evT s f with
 | .fn n caps=>match lookE tbl s.ob n (evTL s xs++caps) with
   | some en=>chkO (en.fid == n) (match en.pure with
     | true=>decIn en.inS (zSQ s.ob (evTL s xs++caps)) [] fun x=>zAA (en.F x) fun y=>resGo en y fun v _=>chkO (zOv v) (K (zAb s d v))
     | false=>callET en n caps f xs d K (zGf s xs))
   | none=>none
 | _=>none
def TbOk (P:Program) (tbl:Nat→Option TEnt):Prop:=∀ k en,tbl k=some en→zGr P en.fid en.W
def CallV (P:Program):zAm:=fun f xs d st K=>∃ tb,zPL P tb∧zQk tb f xs d st K
theorem CallV.sound {P:Program}:zEz P (CallV P):=fun o c f a w0 w L st G K Q ho hc hk h=>by
 obtain ⟨tb,h1,h2⟩:=hk
 exact zQk.sound h1 o c f a w0 w L st G K Q ho hc h2 h
def tbOne (n:Nat) (en:Ent):Nat→Option Ent:=ins n en tbl0
end Go.TM
end
