/- Part 8 of the proof that the law FnCheck holds of every input; no condition. -/
import Derived.Test.YtdpapeledldifaaGreatX06
set_option autoImplicit true
set_option relaxedAutoImplicit true
set_option linter.all false
section
namespace Go.TM
open Go.AM
inductive GT
 | int (k:IntKind) | byte | bool | str | sl (e:GT) | unit | pair (a b:GT)
@[reducible] def GT.Den:GT→Type
  | .int _=>Int
  | .byte=>UInt8
  | .bool=>Bool
  | .str=>List UInt8
  | .sl e=>List e.Den
  | .unit=>Unit
  | .pair a b=>a.Den×b.Den
def GT.sz:GT→Nat
 | .unit=>0
 | .pair a b=>a.sz+b.sz
 | _=>1
def GT.flat:GT→Bool
 | .sl _=>false
 | .pair a b=>a.flat && b.flat
 | _=>true
def GT.dflt:(t:GT)→t.Den
 | .int _=>(0:Int)
 | .byte=>(0:UInt8)
 | .bool=>false
 | .str=>([]:List UInt8)
 | .sl _=>[]
 | .unit=>()
 | .pair a b=>(a.dflt,b.dflt)
def eqK (a b:IntKind):Bool:=decide (a=b)
def GT.same:GT→GT→Bool
 | .int k,.int k'=>eqK k k'
 | .byte,.byte=>true
 | .bool,.bool=>true
 | .str,.str=>true
 | .sl a,.sl b=>a.same b
 | .unit,.unit=>true
 | .pair a b,.pair c d=>a.same c && b.same d
 | _,_=>false
theorem GT.same_eq:∀ {a b:GT},a.same b=true→a=b
 | .int k,.int k',h=>by simp only [same,eqK,decide_eq_true_eq] at h;rw [h]
 | .byte,.byte,_=>rfl
 | .bool,.bool,_=>rfl
 | .str,.str,_=>rfl
 | .unit,.unit,_=>rfl
 | .sl a,.sl b,h=>by rw [same_eq (a:=a) (b:=b) h]
 | .pair a b,.pair c d,h=>by
   simp only [same,Bool.and_eq_true] at h
   rw [same_eq h.1,same_eq h.2]
def zDp {a b:GT} (h:a.same b=true) (l:List b.Den):List a.Den:=(GT.same_eq h) ▸ l
def encC (d:Bool):(t:GT)→t.Den→List SV
 | .int k,n=>[.i k n]
 | .byte,c=>[.i .u8 (c:UInt8).toNat]
 | .bool,x=>[.b x]
 | .str,x=>[.s x]
 | .sl e,l=>[match d with | true=>.own e.sz ((l:List e.Den).map (encC d e)) | false=>.sl e.sz ((l:List e.Den).map (encC d e))]
 | .unit,_=>[]
 | .pair a b,x=>encC d a x.1++encC d b x.2
inductive V
 | u | sk
 | i (k:IntKind) (n:Int)
 | b (x:Bool)
 | s (x:List UInt8)
 | sl (t:GT) (l:List t.Den)
 | own (t:GT) (d:Bool) (l:List t.Den)
 | emp (t:GT)
 | ar (o:Nat)
 | p (o i off:Nat)
 | ro (cells:List V)
 | nilp | nil
 | fn (f:Nat) (caps:List V)
 | agg (cells:List V)
 | tup (vs:List V)
def cells (d:Bool):(t:GT)→t.Den→List V
 | .int k,n=>[.i k n]
 | .byte,c=>[.i .u8 (c:UInt8).toNat]
 | .bool,x=>[.b x]
 | .str,x=>[.s x]
 | .sl e,l=>[match d with | true=>.own e d l | false=>.sl e l]
 | .unit,_=>[]
 | .pair a b,x=>cells d a x.1++cells d b x.2
mutual
def e:V→SV
 | .u=>.u
 | .sk=>.sk
 | .i k n=>.i k n
 | .b x=>.b x
 | .s x=>.s x
 | .sl t l=>.sl t.sz (l.map (encC false t))
 | .own t d l=>.own t.sz (l.map (encC d t))
 | .emp t=>.own t.sz []
 | .ar o=>.ar o
 | .p o i off=>.p o i off
 | .ro cs=>.ro (eL cs)
 | .nilp=>.nilp
 | .nil=>.nil
 | .fn f cs=>.fn f (eL cs)
 | .agg cs=>.agg (eL cs)
 | .tup cs=>.tup (eL cs)
def eL:List V→List SV
 | []=>[]
 | x :: l=>e x :: eL l
end
theorem zQC:∀ l:List V,eL l=l.map e
 | []=>rfl
 | x :: l=>by simp only [eL,List.map_cons,zQC l]
theorem zBp (a b:List V):eL (a++b)=eL a++eL b:=by simp only [zQC,List.map_append]
theorem zAN (l:List V):(eL l).length=l.length:=by simp only [zQC,List.length_map]
theorem zEu (d:Bool):∀ (t:GT) (x:t.Den),eL (cells d t x)=encC d t x
 | .int _,_=>rfl
 | .byte,_=>rfl
 | .bool,_=>rfl
 | .str,_=>rfl
 | .sl _,_=>by cases d <;> rfl
 | .unit,_=>rfl
 | .pair a b,x=>by simp only [cells,encC,zBp,zEu d a,zEu d b]
theorem zEH (d:Bool):∀ (t:GT) (x:t.Den),(encC d t x).length=t.sz
 | .int _,_=>rfl
 | .byte,_=>rfl
 | .bool,_=>rfl
 | .str,_=>rfl
 | .sl _,_=>rfl
 | .unit,_=>rfl
 | .pair a b,x=>by simp only [encC,List.length_append,zEH d a,zEH d b,GT.sz]
theorem zIS:∀ (t:GT) (d d':Bool) (x:t.Den),t.flat=true→encC d t x=encC d' t x
 | .int _,_,_,_,_=>rfl
 | .byte,_,_,_,_=>rfl
 | .bool,_,_,_,_=>rfl
 | .str,_,_,_,_=>rfl
 | .sl _,_,_,_,h=>by cases h
 | .unit,_,_,_,_=>rfl
 | .pair a b,d,d',x,h=>by
   simp only [GT.flat,Bool.and_eq_true] at h
   simp only [encC,zIS a d d' _ h.1,zIS b d d' _ h.2]
theorem map_flat {t:GT} (d d':Bool) (l:List t.Den) (h:t.flat=true):l.map (encC d t)=l.map (encC d' t) :=
 List.map_congr_left fun x _=>zIS t d d' x h
inductive TO
 | box (n:Nat) (cs:List V)
 | arr (n:Nat) (t:GT) (d:Bool) (l:List t.Den)
 | opn (n:Nat) (t:GT) (d:Bool) (l:List t.Den) (i:Nat) (cs:List V)
structure TS where
 n:Nat
 al:List (Nat×V)
 ob:List TO
def TO.name:TO→Nat
 | .box n _=>n
 | .arr n _ _ _=>n
 | .opn n _ _ _ _ _=>n
def eO:TO→Ob
 | .box n cs=>⟨n,cs.length,[eL cs],true⟩
 | .arr n t d l=>⟨n,t.sz,l.map (encC d t),false⟩
 | .opn n t d l i cs=>⟨n,t.sz,(l.map (encC d t)).set i (eL cs),true⟩
def eOs:List TO→List Ob
 | []=>[]
 | x :: l=>eO x :: eOs l
def eA:List (Nat×V)→List (Nat×SV)
 | []=>[]
 | p :: l=>(p.1,e p.2) :: eA l
def eS (s:TS):St:=⟨den s.n (eA s.al),eOs s.ob⟩
def lookV:List (Nat×V)→Nat→V
 | [],_=>.u
 | p :: l,t=>bif p.1 == t then p.2 else lookV l t
def lkV:List V→Nat→V
 | [],_=>.u
 | x :: _,0=>x
 | _ :: l,n+1=>lkV l n
def updV:List V→Nat→V→List V
 | [],_,_=>[]
 | _ :: l,0,v=>v :: l
 | x :: l,n+1,v=>x :: updV l n v
def overV:List V→List V→List V
 | [],row=>row
 | _ :: _,[]=>[]
 | c :: cs,_ :: row=>c :: overV cs row
def wrV:List V→Nat→List V→List V
 | row,0,cs=>overV cs row
 | [],_+1,_=>[]
 | x :: row,n+1,cs=>x :: wrV row n cs
mutual
def zBC:V→Bool
 | .own _ _ _=>true
 | .emp _=>true
 | .agg cs=>zCr cs
 | .tup cs=>zCr cs
 | _=>false
def zCr:List V→Bool
 | []=>false
 | x :: l=>zBC x || zCr l
end
def plainV:V→Bool
 | .i _ _ | .b _ | .s _ | .sl _ _ | .own _ _ _ | .emp _ | .nil=>true
 | _=>false
def zHz:List V→Bool
 | []=>true
 | x :: l=>plainV x && zHz l
def cell1V:V→Bool
 | .u | .sk | .agg _ | .tup _=>false
 | _=>true
def zDc:List V→Bool
 | []=>true
 | x :: l=>cell1V x && zDc l
mutual
def zMp (o:Nat):V→V
 | .ar n=>bif n == o then .u else .ar n
 | .p n i off=>bif n == o then .u else .p n i off
 | .fn f caps=>.fn f (zDV o caps)
 | .agg cs=>.agg (zDV o cs)
 | .tup cs=>.tup (zDV o cs)
 | .u=>.u
 | .sk=>.sk
 | .i k n=>.i k n
 | .b x=>.b x
 | .s x=>.s x
 | .sl t r=>.sl t r
 | .own t d r=>.own t d r
 | .emp t=>.emp t
 | .ro c=>.ro c
 | .nilp=>.nilp
 | .nil=>.nil
def zDV (o:Nat):List V→List V
 | []=>[]
 | x :: l=>zMp o x :: zDV o l
end
def zPk (o:Nat):List (Nat×V)→List (Nat×V)
 | []=>[]
 | p :: l=>(p.1,zMp o p.2) :: zPk o l
def zIF (o:Nat):List TO→List TO
 | []=>[]
 | x :: l=>bif x.name == o then zIF o l else (match x with | .box n cs=>.box n (zDV o cs) | .arr n t d l=>.arr n t d l | .opn n t d l i cs=>.opn n t d l i (zDV o cs)) :: zIF o l
def zHF (o:Nat) (s:TS):TS:=⟨s.n,zPk o s.al,zIF o s.ob⟩
def getT:List TO→Nat→Option TO
 | [],_=>none
 | x :: l,o=>bif x.name == o then some x else getT l o
def zAe:List TO→Nat→List V→List TO
 | [],_,_=>[]
 | x :: l,o,cs=>bif x.name == o then .box x.name cs :: l else x :: zAe l o cs
def zHk (t:GT) (d:Bool):List TO→Nat→List t.Den→List TO
 | [],_,_=>[]
 | x :: l,o,r=>bif x.name == o then .arr x.name t d r :: l else x :: zHk t d l o r
def zAh:List TO→Nat→List V→List TO
 | [],_,_=>[]
 | x :: l,o,cs=>bif x.name == o then (match x with | .opn n t d r i _=>.opn n t d r i cs | y=>y) :: l else x :: zAh l o cs
def setT (s:TS) (t:Nat) (v:V):TS:=⟨s.n,(t,v) :: s.al,s.ob⟩
def zAd (s:TS) (d:Option Tmp) (v:V):TS:=match d with | some t=>setT s t v | none=>s
def addT (s:TS) (o:Nat) (x:TO):TS:=⟨s.n,zPk o s.al,x :: zIF o s.ob⟩
def ofC:Value→V
 | .int k n=>.i k n
 | .bool b=>.b b
 | .string s=>.s s.data.toList
 | .slice none 0 0=>.nil
 | .pointer none=>.nilp
 | _=>.u
def zBf (s:TS) (t:Nat):V:=match Nat.blt t s.n with
 | true=>lookV s.al t
 | false=>.u
def evT (s:TS):Operand→V
 | .tmp t=>zBf s t
 | .const v=>ofC v
 | .global _=>.u
 | .func f=>.fn f []
def zAv (s:TS) (x:Operand):TS:=match x with
 | .tmp t=>match zBC (zBf s t) with
   | true=>setT s t .u
   | false=>s
 | _=>s
def zFL (s:TS):List Operand→TS
 | []=>s
 | x :: l=>zFL (zAv s x) l
def zIc (s:TS):List Operand→List V
 | []=>[]
 | x :: l=>evT s x :: zIc (zAv s x) l
def zAm:V→List V
 | .agg cs=>cs
 | v=>[v]
section
variable {s:TS}
theorem zRe:∀ (al:List (Nat×V)) (t:Nat),e (lookV al t)=AM.look (eA al) t
 | [],_=>rfl
 | p :: l,t=>by
   simp only [lookV,eA,AM.look]
   cases p.1 == t
   ·exact zRe l t
   ·rfl
theorem zFt:∀ (l:List V) (n:Nat),e (lkV l n)=lkp (eL l) n
 | [],_=>rfl
 | _ :: _,0=>rfl
 | _ :: l,n+1=>zFt l n
theorem zRf:∀ (l:List V) (n:Nat) (v:V),eL (updV l n v)=upd (eL l) n (e v)
 | [],_,_=>rfl
 | _ :: _,0,_=>rfl
 | x :: l,n+1,v=>by simp only [updV,eL,upd,zRf l n v]
theorem zSw:∀ (cs row:List V),eL (overV cs row)=over (eL cs) (eL row)
 | [],_=>rfl
 | _ :: _,[]=>rfl
 | c :: cs,_ :: row=>by simp only [overV,eL,over,zSw cs row]
theorem zCe:∀ (row:List V) (n:Nat) (cs:List V),eL (wrV row n cs)=wr (eL row) n (eL cs)
 | row,0,cs=>by cases row <;> simp only [wrV,wr,zSw,eL]
 | [],_+1,_=>rfl
 | x :: row,n+1,cs=>by simp only [wrV,eL,wr,zCe row n cs]
theorem zCO (row:List V) (n:Nat) (cs:List V) (h:n+cs.length≤row.length):(wrV row n cs).length=row.length:=by
 rw [← zAN,zCe,zHS _ _ _ (by simpa only [zAN] using h),zAN]
mutual
theorem zBR:∀ v:V,zAc (e v)=zBC v
 | .u | .sk | .i _ _ | .b _ | .s _ | .sl _ _ | .own _ _ _ | .emp _ | .ar _ | .p _ _ _ | .ro _ | .nilp | .nil | .fn _ _=>rfl
 | .agg cs=>zDI cs
 | .tup cs=>zDI cs
theorem zDI:∀ l:List V,zAy (eL l)=zCr l
 | []=>rfl
 | x :: l=>by simp only [eL,zAy,zCr,zBR x,zDI l]
end
theorem plain_e (v:V):plain (e v)=plainV v:=by cases v <;> rfl
theorem zMZ:∀ l:List V,zBh (eL l)=zHz l
 | []=>rfl
 | x :: l=>by simp only [eL,zBh,zHz,plain_e x,zMZ l]
theorem cell1_e (v:V):cell1 (e v)=cell1V v:=by cases v <;> rfl
theorem zDY:∀ l:List V,zBq (eL l)=zDc l
 | []=>rfl
 | x :: l=>by simp only [eL,zBq,zDc,cell1_e x,zDY l]
mutual
theorem zVS (o:Nat):∀ v:V,kill o (e v)=e (zMp o v)
 | .u | .sk | .i _ _ | .b _ | .s _ | .sl _ _ | .own _ _ _ | .emp _ | .ro _ | .nilp | .nil=>rfl
 | .ar n=>by simp only [e,kill,zMp];by_cases h:n=o <;> simp [h,e,(show (n == o)=decide (n=o) from rfl)]
 | .p n i off=>by simp only [e,kill,zMp];by_cases h:n=o <;> simp [h,e,(show (n == o)=decide (n=o) from rfl)]
 | .fn f cs=>by simp only [e,kill,zMp,zEA o cs]
 | .agg cs=>by simp only [e,kill,zMp,zEA o cs]
 | .tup cs=>by simp only [e,kill,zMp,zEA o cs]
theorem zEA (o:Nat):∀ l:List V,zBo o (eL l)=eL (zDV o l)
 | []=>rfl
 | x :: l=>by simp only [eL,zBo,zDV,zVS o x,zEA o l]
end
theorem zFm (o:Nat) (l:List V):(zDV o l).length=l.length:=by rw [← zAN,← zEA,zAX,zAN]
theorem zRS (o:Nat):∀ al:List (Nat×V),zTj o (eA al)=eA (zPk o al)
 | []=>rfl
 | p :: l=>by simp only [eA,zTj,zPk,zVS,zRS o l]
theorem zEJ (x:TO):(eO x).name=x.name:=by cases x <;> rfl
mutual
theorem kill_id (o:Nat):∀ v:SV,plain v=true→kill o v=v
 | .i _ _,_=>rfl
 | .b _,_=>rfl
 | .s _,_=>rfl
 | .sl _ _,_=>rfl
 | .own _ _,_=>rfl
 | .nil,_=>rfl
 | .u,_=>rfl
 | .sk,_=>rfl
 | .nilp,_=>rfl
 | .ar _,h=>by simp [plain] at h
 | .p _ _ _,h=>by simp [plain] at h
 | .ro _,h=>by simp [plain] at h
 | .fn _ _,h=>by simp [plain] at h
 | .agg _,h=>by simp [plain] at h
 | .tup _,h=>by simp [plain] at h
end
theorem zSm (o:Nat):∀ l:List SV,zBh l=true→zBo o l=l
 | [],_=>rfl
 | x :: l,h=>by
   simp only [zBh,Bool.and_eq_true] at h
   simp only [zBo,kill_id o x h.1,zSm o l h.2]
theorem zIw:∀ a b:List SV,zBh (a++b)=(zBh a && zBh b)
 | [],_=>rfl
 | x :: a,b=>by simp only [List.cons_append,zBh,zIw a b,Bool.and_assoc]
theorem zDF:∀ (t:GT) (d:Bool) (x:t.Den),zBh (encC d t x)=true
 | .int _,_,_=>rfl
 | .byte,_,_=>rfl
 | .bool,_,_=>rfl
 | .str,_,_=>rfl
 | .sl _,d,_=>by cases d <;> rfl
 | .unit,_,_=>rfl
 | .pair a b,d,x=>by simp only [encC,zIw,zDF a d x.1,zDF b d x.2,Bool.and_self]
theorem zGk (o:Nat) (t:GT) (d:Bool):∀ l:List t.Den,zBJ o (l.map (encC d t))=l.map (encC d t)
 | []=>rfl
 | x :: l=>by simp only [List.map_cons,zBJ,zSm o _ (zDF t d x),zGk o t d l]
theorem zGi (o:Nat):∀ (rows:List (List SV)) (i:Nat) (r:List SV),zBJ o (rows.set i r)=(zBJ o rows).set i (zBo o r)
 | [],i,r=>rfl
 | x :: l,0,r=>rfl
 | x :: l,i+1,r=>by simp only [List.set_cons_succ,zBJ,zGi o l i r]
theorem zEt (o:Nat):∀ l:List TO,zCE o (eOs l)=eOs (zIF o l)
 | []=>rfl
 | x :: l=>by
   simp only [eOs,zCE,zIF,zEJ]
   by_cases h:x.name=o
   ·simp only [h,if_true,beq_self_eq_true,cond_true,zEt o l]
   ·have h':(x.name == o)=false:=by simpa using h
    simp only [h,if_false,h',cond_false,eOs,zEt o l]
    cases x with
    | box n cs=>simp only [eO,if_true,zBJ,zEA,zFm,TO.name]
    | arr n t d l=>simp only [eO,Bool.false_eq_true,if_false,TO.name]
    | opn n t d l i cs=>simp only [eO,if_true,TO.name,zGi,zGk,zEA]
theorem zEE:∀ (l:List TO) (o:Nat),zAa (eOs l) o=(getT l o).map eO
 | [],_=>rfl
 | x :: l,o=>by
   simp only [eOs,zAa,getT,zEJ]
   by_cases h:x.name=o
   ·simp [h]
   ·have h':(x.name == o)=false:=by simpa using h
    simp only [h,if_false,h',cond_false,zEE l o]
theorem zSU {o:Nat}:∀ (l:List TO) {n:Nat} {cs cs':List V},getT l o=some (.box n cs)→cs'.length=cs.length→zBI (eOs l) o ([eL cs].set 0 (eL cs'))=eOs (zAe l o cs')
 | [],_,_,_,h,_=>by cases h
 | x :: l,n,cs,cs',h,hl=>by
   simp only [eOs,zBI,zAe,zEJ]
   simp only [getT] at h
   by_cases hx:x.name=o
   ·have h':(x.name == o)=true:=by simpa using hx
    rw [h',cond_true] at h
    simp only [Option.some.injEq] at h
    subst h
    simp only [TO.name] at hx
    simp only [hx,if_true,cond_true,eOs,eO,TO.name,List.set_cons_zero,hl,beq_self_eq_true]
   ·have h':(x.name == o)=false:=by simpa using hx
    rw [h',cond_false] at h
    simp only [hx,if_false,h',cond_false,eOs,zSU l h hl]
theorem zSV {o:Nat} {t:GT} {d:Bool}:∀ (l:List TO) {n:Nat} {r r':List t.Den},getT l o=some (.arr n t d r)→zBI (eOs l) o (r'.map (encC d t))=eOs (zHk t d l o r')
 | [],_,_,_,h=>by cases h
 | x :: l,n,r,r',h=>by
   simp only [eOs,zBI,zHk,zEJ]
   simp only [getT] at h
   by_cases hx:x.name=o
   ·have h':(x.name == o)=true:=by simpa using hx
    rw [h',cond_true] at h
    simp only [Option.some.injEq] at h
    subst h
    simp only [TO.name] at hx
    simp only [hx,if_true,beq_self_eq_true,cond_true,eOs,eO,TO.name]
   ·have h':(x.name == o)=false:=by simpa using hx
    rw [h',cond_false] at h
    simp only [hx,if_false,h',cond_false,eOs,zSV l h]
theorem zST {o:Nat} {t:GT} {d:Bool} {r:List t.Den} {i:Nat}:∀ (l:List TO) {n:Nat} {cs cs':List V},getT l o=some (.opn n t d r i cs)→zBI (eOs l) o (((r.map (encC d t)).set i (eL cs)).set i (eL cs'))=eOs (zAh l o cs')
 | [],_,_,_,h=>by cases h
 | x :: l,n,cs,cs',h=>by
   simp only [eOs,zBI,zAh,zEJ]
   simp only [getT] at h
   by_cases hx:x.name=o
   ·have h':(x.name == o)=true:=by simpa using hx
    rw [h',cond_true] at h
    simp only [Option.some.injEq] at h
    subst h
    simp only [TO.name] at hx
    simp only [hx,if_true,beq_self_eq_true,cond_true,eOs,eO,TO.name,List.set_set]
   ·have h':(x.name == o)=false:=by simpa using hx
    rw [h',cond_false] at h
    simp only [hx,if_false,h',cond_false,eOs,zST l h]
theorem zCZ (t:Nat) (v:V):setE (eS s) t (e v)=eS (setT s t v):=by
 simp only [setE,eS,setT,eA,upd_den]
theorem zAR (d:Option Tmp) (v:V):setD (eS s) d (e v)=eS (zAd s d v):=by
 cases d with
 | none=>rfl
 | some t=>exact zCZ t v
theorem zGY (o:Nat) (x:TO) (ho:x.name=o):addOb (eS s) o (eO x).k (eO x).rows (eO x).nm=eS (addT s o x):=by
 simp only [addOb,eS,addT,zPj,zRS,zEt,eOs,St.mk.injEq,List.cons.injEq,and_true,true_and]
 cases x <;> simp only [TO.name] at ho <;> subst ho <;> rfl
theorem zEs (o:Nat):killSt o (eS s)=eS (zHF o s):=by
 simp only [killSt,eS,zHF,zPj,zRS,zEt]
theorem zTi {n t:Nat} {al:List (Nat×SV)} (h:n≤t):lkp (den n al) t = .u:=zGh _ _ (by simpa [den] using h)
theorem zCV (t:Nat):lkp (eS s).env t=e (zBf s t):=by
 unfold zBf eS
 cases h:Nat.blt t s.n with
 | true =>
   have:t<s.n:=Nat.le_of_ble_eq_true h
   rw [lkp_den this,zRe]
 | false =>
   have:¬ t<s.n:=fun hl=>by rw [Nat.ble_eq_true_of_le (show t+1≤s.n from hl) |> (show Nat.blt t s.n=true from ·)] at h;cases h
   rw [zTi (by omega)];rfl
theorem ofC_e (v:Value):e (ofC v)=zCC v:=by
 unfold ofC
 split <;> first | rfl | (unfold zCC;split <;> simp_all [e])
theorem zAn:∀ x:Operand,AM.ev (eS s).env x=e (evT s x)
 | .tmp t=>zCV t
 | .const v=>(ofC_e v).symm
 | .global _=>rfl
 | .func f=>rfl
theorem zCQ (x:Operand):strip (eS s) x=eS (zAv s x):=by
 cases x with
 | tmp t =>
   simp only [strip,zAv]
   rw [zCV,zBR]
   cases zBC (zBf s t)
   ·rfl
   ·exact zCZ t .u
 | _=>rfl
theorem zHJ:∀ (l:List Operand) {s:TS},zEP (eS s) l=eS (zFL s l)
 | [],_=>rfl
 | x :: l,s=>by simp only [zEP,zFL,zCQ,zHJ l]
theorem zJX:∀ (l:List Operand) {s:TS},zEV (eS s) l=eL (zIc s l)
 | [],_=>rfl
 | x :: l,s=>by simp only [zEV,zIc,eL,zCQ,zAn,zJX l]
theorem zCf (v:V):cellsOf (e v)=eL (zAm v):=by cases v <;> rfl
end
end Go.TM
end
