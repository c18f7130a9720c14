/- Part 8 of the proof that the law FnFilePut holds of every input; no condition. -/
import Derived.Test.YtdpapeledldifaaGreatX06
set_option autoImplicit true
set_option relaxedAutoImplicit true
set_option linter.all false
section
namespace Go.TM
open Go.AM
inductive GT
 | int (k:IntKind) | byte | bool | str | sl (e:GT) | unit | pair (a b:GT)
@[reducible] def GT.Den:GT→Type
  | .int _=>Int
  | .byte=>UInt8
  | .bool=>Bool
  | .str=>List UInt8
  | .sl e=>List e.Den
  | .unit=>Unit
  | .pair a b=>a.Den×b.Den
def GT.sz:GT→Nat
 | .unit=>0
 | .pair a b=>a.sz+b.sz
 | _=>1
def GT.flat:GT→Bool
 | .sl _=>false
 | .pair a b=>a.flat && b.flat
 | _=>true
def GT.dflt:(t:GT)→t.Den
 | .int _=>(0:Int)
 | .byte=>(0:UInt8)
 | .bool=>false
 | .str=>([]:List UInt8)
 | .sl _=>[]
 | .unit=>()
 | .pair a b=>(a.dflt,b.dflt)
def eqK (a b:IntKind):Bool:=decide (a=b)
def GT.same:GT→GT→Bool
 | .int k,.int k'=>eqK k k'
 | .byte,.byte=>true
 | .bool,.bool=>true
 | .str,.str=>true
 | .sl a,.sl b=>a.same b
 | .unit,.unit=>true
 | .pair a b,.pair c d=>a.same c && b.same d
 | _,_=>false
theorem GT.same_eq:∀ {a b:GT},a.same b=true→a=b
 | .int k,.int k',h=>by simp only [same,eqK,decide_eq_true_eq] at h;rw [h]
 | .byte,.byte,_=>rfl
 | .bool,.bool,_=>rfl
 | .str,.str,_=>rfl
 | .unit,.unit,_=>rfl
 | .sl a,.sl b,h=>by rw [same_eq (a:=a) (b:=b) h]
 | .pair a b,.pair c d,h=>by
   simp only [same,Bool.and_eq_true] at h
   rw [same_eq h.1,same_eq h.2]
def zDe {a b:GT} (h:a.same b=true) (l:List b.Den):List a.Den:=(GT.same_eq h) ▸ l
def encC (d:Bool):(t:GT)→t.Den→List SV
 | .int k,n=>[.i k n]
 | .byte,c=>[.i .u8 (c:UInt8).toNat]
 | .bool,x=>[.b x]
 | .str,x=>[.s x]
 | .sl e,l=>[match d with | true=>.own e.sz ((l:List e.Den).map (encC d e)) | false=>.sl e.sz ((l:List e.Den).map (encC d e))]
 | .unit,_=>[]
 | .pair a b,x=>encC d a x.1++encC d b x.2
inductive V
 | u | sk
 | i (k:IntKind) (n:Int)
 | b (x:Bool)
 | s (x:List UInt8)
 | sl (t:GT) (l:List t.Den)
 | own (t:GT) (d:Bool) (l:List t.Den)
 | emp (t:GT)
 | ar (o:Nat)
 | p (o i off:Nat)
 | ro (cells:List V)
 | nilp | nil
 | fn (f:Nat) (caps:List V)
 | agg (cells:List V)
 | tup (vs:List V)
def cells (d:Bool):(t:GT)→t.Den→List V
 | .int k,n=>[.i k n]
 | .byte,c=>[.i .u8 (c:UInt8).toNat]
 | .bool,x=>[.b x]
 | .str,x=>[.s x]
 | .sl e,l=>[match d with | true=>.own e d l | false=>.sl e l]
 | .unit,_=>[]
 | .pair a b,x=>cells d a x.1++cells d b x.2
mutual
def e:V→SV
 | .u=>.u
 | .sk=>.sk
 | .i k n=>.i k n
 | .b x=>.b x
 | .s x=>.s x
 | .sl t l=>.sl t.sz (l.map (encC false t))
 | .own t d l=>.own t.sz (l.map (encC d t))
 | .emp t=>.own t.sz []
 | .ar o=>.ar o
 | .p o i off=>.p o i off
 | .ro cs=>.ro (eL cs)
 | .nilp=>.nilp
 | .nil=>.nil
 | .fn f cs=>.fn f (eL cs)
 | .agg cs=>.agg (eL cs)
 | .tup cs=>.tup (eL cs)
def eL:List V→List SV
 | []=>[]
 | x :: l=>e x :: eL l
end
theorem zPi:∀ l:List V,eL l=l.map e
 | []=>rfl
 | x :: l=>by simp only [eL,List.map_cons,zPi l]
theorem zBg (a b:List V):eL (a++b)=eL a++eL b:=by simp only [zPi,List.map_append]
theorem zAN (l:List V):(eL l).length=l.length:=by simp only [zPi,List.length_map]
theorem zEl (d:Bool):∀ (t:GT) (x:t.Den),eL (cells d t x)=encC d t x
 | .int _,_=>rfl
 | .byte,_=>rfl
 | .bool,_=>rfl
 | .str,_=>rfl
 | .sl _,_=>by cases d <;> rfl
 | .unit,_=>rfl
 | .pair a b,x=>by simp only [cells,encC,zBg,zEl d a,zEl d b]
theorem zDv (d:Bool):∀ (t:GT) (x:t.Den),(encC d t x).length=t.sz
 | .int _,_=>rfl
 | .byte,_=>rfl
 | .bool,_=>rfl
 | .str,_=>rfl
 | .sl _,_=>rfl
 | .unit,_=>rfl
 | .pair a b,x=>by simp only [encC,List.length_append,zDv d a,zDv d b,GT.sz]
theorem zIQ:∀ (t:GT) (d d':Bool) (x:t.Den),t.flat=true→encC d t x=encC d' t x
 | .int _,_,_,_,_=>rfl
 | .byte,_,_,_,_=>rfl
 | .bool,_,_,_,_=>rfl
 | .str,_,_,_,_=>rfl
 | .sl _,_,_,_,h=>by cases h
 | .unit,_,_,_,_=>rfl
 | .pair a b,d,d',x,h=>by
   simp only [GT.flat,Bool.and_eq_true] at h
   simp only [encC,zIQ a d d' _ h.1,zIQ b d d' _ h.2]
theorem map_flat {t:GT} (d d':Bool) (l:List t.Den) (h:t.flat=true):l.map (encC d t)=l.map (encC d' t) :=
 List.map_congr_left fun x _=>zIQ t d d' x h
inductive TO
 | box (n:Nat) (cs:List V)
 | arr (n:Nat) (t:GT) (d:Bool) (l:List t.Den)
 | opn (n:Nat) (t:GT) (d:Bool) (l:List t.Den) (i:Nat) (cs:List V)
structure TS where
 n:Nat
 al:List (Nat×V)
 ob:List TO
def TO.name:TO→Nat
 | .box n _=>n
 | .arr n _ _ _=>n
 | .opn n _ _ _ _ _=>n
def eO:TO→Ob
 | .box n cs=>⟨n,cs.length,[eL cs],true⟩
 | .arr n t d l=>⟨n,t.sz,l.map (encC d t),false⟩
 | .opn n t d l i cs=>⟨n,t.sz,(l.map (encC d t)).set i (eL cs),true⟩
def eOs:List TO→List Ob
 | []=>[]
 | x :: l=>eO x :: eOs l
def eA:List (Nat×V)→List (Nat×SV)
 | []=>[]
 | p :: l=>(p.1,e p.2) :: eA l
def eS (s:TS):St:=⟨den s.n (eA s.al),eOs s.ob⟩
def lookV:List (Nat×V)→Nat→V
 | [],_=>.u
 | p :: l,t=>bif p.1 == t then p.2 else lookV l t
def lkV:List V→Nat→V
 | [],_=>.u
 | x :: _,0=>x
 | _ :: l,n+1=>lkV l n
def updV:List V→Nat→V→List V
 | [],_,_=>[]
 | _ :: l,0,v=>v :: l
 | x :: l,n+1,v=>x :: updV l n v
def overV:List V→List V→List V
 | [],row=>row
 | _ :: _,[]=>[]
 | c :: cs,_ :: row=>c :: overV cs row
def wrV:List V→Nat→List V→List V
 | row,0,cs=>overV cs row
 | [],_+1,_=>[]
 | x :: row,n+1,cs=>x :: wrV row n cs
mutual
def zAv:V→Bool
 | .own _ _ _=>true
 | .emp _=>true
 | .agg cs=>zCf cs
 | .tup cs=>zCf cs
 | _=>false
def zCf:List V→Bool
 | []=>false
 | x :: l=>zAv x || zCf l
end
def plainV:V→Bool
 | .i _ _ | .b _ | .s _ | .sl _ _ | .own _ _ _ | .emp _ | .nil=>true
 | _=>false
def zHy:List V→Bool
 | []=>true
 | x :: l=>plainV x && zHy l
def cell1V:V→Bool
 | .u | .sk | .agg _ | .tup _=>false
 | _=>true
def zDR:List V→Bool
 | []=>true
 | x :: l=>cell1V x && zDR l
mutual
def zMh (o:Nat):V→V
 | .ar n=>bif n == o then .u else .ar n
 | .p n i off=>bif n == o then .u else .p n i off
 | .fn f caps=>.fn f (zDK o caps)
 | .agg cs=>.agg (zDK o cs)
 | .tup cs=>.tup (zDK o cs)
 | .u=>.u
 | .sk=>.sk
 | .i k n=>.i k n
 | .b x=>.b x
 | .s x=>.s x
 | .sl t r=>.sl t r
 | .own t d r=>.own t d r
 | .emp t=>.emp t
 | .ro c=>.ro c
 | .nilp=>.nilp
 | .nil=>.nil
def zDK (o:Nat):List V→List V
 | []=>[]
 | x :: l=>zMh o x :: zDK o l
end
def zPP (o:Nat):List (Nat×V)→List (Nat×V)
 | []=>[]
 | p :: l=>(p.1,zMh o p.2) :: zPP o l
def zIE (o:Nat):List TO→List TO
 | []=>[]
 | x :: l=>bif x.name == o then zIE o l else (match x with | .box n cs=>.box n (zDK o cs) | .arr n t d l=>.arr n t d l | .opn n t d l i cs=>.opn n t d l i (zDK o cs)) :: zIE o l
def zGs (o:Nat) (s:TS):TS:=⟨s.n,zPP o s.al,zIE o s.ob⟩
def getT:List TO→Nat→Option TO
 | [],_=>none
 | x :: l,o=>bif x.name == o then some x else getT l o
def zAd:List TO→Nat→List V→List TO
 | [],_,_=>[]
 | x :: l,o,cs=>bif x.name == o then .box x.name cs :: l else x :: zAd l o cs
def zHk (t:GT) (d:Bool):List TO→Nat→List t.Den→List TO
 | [],_,_=>[]
 | x :: l,o,r=>bif x.name == o then .arr x.name t d r :: l else x :: zHk t d l o r
def zAf:List TO→Nat→List V→List TO
 | [],_,_=>[]
 | x :: l,o,cs=>bif x.name == o then (match x with | .opn n t d r i _=>.opn n t d r i cs | y=>y) :: l else x :: zAf l o cs
def setT (s:TS) (t:Nat) (v:V):TS:=⟨s.n,(t,v) :: s.al,s.ob⟩
def zAc (s:TS) (d:Option Tmp) (v:V):TS:=match d with | some t=>setT s t v | none=>s
def addT (s:TS) (o:Nat) (x:TO):TS:=⟨s.n,zPP o s.al,x :: zIE o s.ob⟩
def ofC:Value→V
 | .int k n=>.i k n
 | .bool b=>.b b
 | .string s=>.s s.data.toList
 | .slice none 0 0=>.nil
 | .pointer none=>.nilp
 | _=>.u
def zBX (s:TS) (t:Nat):V:=match Nat.blt t s.n with
 | true=>lookV s.al t
 | false=>.u
def evT (s:TS):Operand→V
 | .tmp t=>zBX s t
 | .const v=>ofC v
 | .global _=>.u
 | .func f=>.fn f []
def zAo (s:TS) (x:Operand):TS:=match x with
 | .tmp t=>match zAv (zBX s t) with
   | true=>setT s t .u
   | false=>s
 | _=>s
def zFI (s:TS):List Operand→TS
 | []=>s
 | x :: l=>zFI (zAo s x) l
def zIa (s:TS):List Operand→List V
 | []=>[]
 | x :: l=>evT s x :: zIa (zAo s x) l
def zAi:V→List V
 | .agg cs=>cs
 | v=>[v]
section
variable {s:TS}
theorem zQx:∀ (al:List (Nat×V)) (t:Nat),e (lookV al t)=AM.look (eA al) t
 | [],_=>rfl
 | p :: l,t=>by
   simp only [lookV,eA,AM.look]
   cases p.1 == t
   ·exact zQx l t
   ·rfl
theorem zFn:∀ (l:List V) (n:Nat),e (lkV l n)=lkp (eL l) n
 | [],_=>rfl
 | _ :: _,0=>rfl
 | _ :: l,n+1=>zFn l n
theorem zQy:∀ (l:List V) (n:Nat) (v:V),eL (updV l n v)=upd (eL l) n (e v)
 | [],_,_=>rfl
 | _ :: _,0,_=>rfl
 | x :: l,n+1,v=>by simp only [updV,eL,upd,zQy l n v]
theorem zRz:∀ (cs row:List V),eL (overV cs row)=over (eL cs) (eL row)
 | [],_=>rfl
 | _ :: _,[]=>rfl
 | c :: cs,_ :: row=>by simp only [overV,eL,over,zRz cs row]
theorem zCV:∀ (row:List V) (n:Nat) (cs:List V),eL (wrV row n cs)=wr (eL row) n (eL cs)
 | row,0,cs=>by cases row <;> simp only [wrV,wr,zRz,eL]
 | [],_+1,_=>rfl
 | x :: row,n+1,cs=>by simp only [wrV,eL,wr,zCV row n cs]
theorem zCE (row:List V) (n:Nat) (cs:List V) (h:n+cs.length≤row.length):(wrV row n cs).length=row.length:=by
 rw [← zAN,zCV,zHC _ _ _ (by simpa only [zAN] using h),zAN]
mutual
theorem zBL:∀ v:V,zAb (e v)=zAv v
 | .u | .sk | .i _ _ | .b _ | .s _ | .sl _ _ | .own _ _ _ | .emp _ | .ar _ | .p _ _ _ | .ro _ | .nilp | .nil | .fn _ _=>rfl
 | .agg cs=>zCv cs
 | .tup cs=>zCv cs
theorem zCv:∀ l:List V,zAr (eL l)=zCf l
 | []=>rfl
 | x :: l=>by simp only [eL,zAr,zCf,zBL x,zCv l]
end
theorem plain_e (v:V):plain (e v)=plainV v:=by cases v <;> rfl
theorem zMT:∀ l:List V,zBZ (eL l)=zHy l
 | []=>rfl
 | x :: l=>by simp only [eL,zBZ,zHy,plain_e x,zMT l]
theorem cell1_e (v:V):cell1 (e v)=cell1V v:=by cases v <;> rfl
theorem zDN:∀ l:List V,zBh (eL l)=zDR l
 | []=>rfl
 | x :: l=>by simp only [eL,zBh,zDR,cell1_e x,zDN l]
mutual
theorem zUF (o:Nat):∀ v:V,kill o (e v)=e (zMh o v)
 | .u | .sk | .i _ _ | .b _ | .s _ | .sl _ _ | .own _ _ _ | .emp _ | .ro _ | .nilp | .nil=>rfl
 | .ar n=>by simp only [e,kill,zMh];by_cases h:n=o <;> simp [h,e,(show (n == o)=decide (n=o) from rfl)]
 | .p n i off=>by simp only [e,kill,zMh];by_cases h:n=o <;> simp [h,e,(show (n == o)=decide (n=o) from rfl)]
 | .fn f cs=>by simp only [e,kill,zMh,zDp o cs]
 | .agg cs=>by simp only [e,kill,zMh,zDp o cs]
 | .tup cs=>by simp only [e,kill,zMh,zDp o cs]
theorem zDp (o:Nat):∀ l:List V,zBf o (eL l)=eL (zDK o l)
 | []=>rfl
 | x :: l=>by simp only [eL,zBf,zDK,zUF o x,zDp o l]
end
theorem zFh (o:Nat) (l:List V):(zDK o l).length=l.length:=by rw [← zAN,← zDp,zAV,zAN]
theorem zQl (o:Nat):∀ al:List (Nat×V),zSp o (eA al)=eA (zPP o al)
 | []=>rfl
 | p :: l=>by simp only [eA,zSp,zPP,zUF,zQl o l]
theorem zDx (x:TO):(eO x).name=x.name:=by cases x <;> rfl
mutual
theorem kill_id (o:Nat):∀ v:SV,plain v=true→kill o v=v
 | .i _ _,_=>rfl
 | .b _,_=>rfl
 | .s _,_=>rfl
 | .sl _ _,_=>rfl
 | .own _ _,_=>rfl
 | .nil,_=>rfl
 | .u,_=>rfl
 | .sk,_=>rfl
 | .nilp,_=>rfl
 | .ar _,h=>by simp [plain] at h
 | .p _ _ _,h=>by simp [plain] at h
 | .ro _,h=>by simp [plain] at h
 | .fn _ _,h=>by simp [plain] at h
 | .agg _,h=>by simp [plain] at h
 | .tup _,h=>by simp [plain] at h
end
theorem zRp (o:Nat):∀ l:List SV,zBZ l=true→zBf o l=l
 | [],_=>rfl
 | x :: l,h=>by
   simp only [zBZ,Bool.and_eq_true] at h
   simp only [zBf,kill_id o x h.1,zRp o l h.2]
theorem zIu:∀ a b:List SV,zBZ (a++b)=(zBZ a && zBZ b)
 | [],_=>rfl
 | x :: a,b=>by simp only [List.cons_append,zBZ,zIu a b,Bool.and_assoc]
theorem zCu:∀ (t:GT) (d:Bool) (x:t.Den),zBZ (encC d t x)=true
 | .int _,_,_=>rfl
 | .byte,_,_=>rfl
 | .bool,_,_=>rfl
 | .str,_,_=>rfl
 | .sl _,d,_=>by cases d <;> rfl
 | .unit,_,_=>rfl
 | .pair a b,d,x=>by simp only [encC,zIu,zCu a d x.1,zCu b d x.2,Bool.and_self]
theorem zGc (o:Nat) (t:GT) (d:Bool):∀ l:List t.Den,zBD o (l.map (encC d t))=l.map (encC d t)
 | []=>rfl
 | x :: l=>by simp only [List.map_cons,zBD,zRp o _ (zCu t d x),zGc o t d l]
theorem zGa (o:Nat):∀ (rows:List (List SV)) (i:Nat) (r:List SV),zBD o (rows.set i r)=(zBD o rows).set i (zBf o r)
 | [],i,r=>rfl
 | x :: l,0,r=>rfl
 | x :: l,i+1,r=>by simp only [List.set_cons_succ,zBD,zGa o l i r]
theorem zEk (o:Nat):∀ l:List TO,zBu o (eOs l)=eOs (zIE o l)
 | []=>rfl
 | x :: l=>by
   simp only [eOs,zBu,zIE,zDx]
   by_cases h:x.name=o
   ·simp only [h,if_true,beq_self_eq_true,cond_true,zEk o l]
   ·have h':(x.name == o)=false:=by simpa using h
    simp only [h,if_false,h',cond_false,eOs,zEk o l]
    cases x with
    | box n cs=>simp only [eO,if_true,zBD,zDp,zFh,TO.name]
    | arr n t d l=>simp only [eO,Bool.false_eq_true,if_false,TO.name]
    | opn n t d l i cs=>simp only [eO,if_true,TO.name,zGa,zGc,zDp]
theorem zDs:∀ (l:List TO) (o:Nat),zAY (eOs l) o=(getT l o).map eO
 | [],_=>rfl
 | x :: l,o=>by
   simp only [eOs,zAY,getT,zDx]
   by_cases h:x.name=o
   ·simp [h]
   ·have h':(x.name == o)=false:=by simpa using h
    simp only [h,if_false,h',cond_false,zDs l o]
theorem zRc {o:Nat}:∀ (l:List TO) {n:Nat} {cs cs':List V},getT l o=some (.box n cs)→cs'.length=cs.length→zBC (eOs l) o ([eL cs].set 0 (eL cs'))=eOs (zAd l o cs')
 | [],_,_,_,h,_=>by cases h
 | x :: l,n,cs,cs',h,hl=>by
   simp only [eOs,zBC,zAd,zDx]
   simp only [getT] at h
   by_cases hx:x.name=o
   ·have h':(x.name == o)=true:=by simpa using hx
    rw [h',cond_true] at h
    simp only [Option.some.injEq] at h
    subst h
    simp only [TO.name] at hx
    simp only [hx,if_true,cond_true,eOs,eO,TO.name,List.set_cons_zero,hl,beq_self_eq_true]
   ·have h':(x.name == o)=false:=by simpa using hx
    rw [h',cond_false] at h
    simp only [hx,if_false,h',cond_false,eOs,zRc l h hl]
theorem zRd {o:Nat} {t:GT} {d:Bool}:∀ (l:List TO) {n:Nat} {r r':List t.Den},getT l o=some (.arr n t d r)→zBC (eOs l) o (r'.map (encC d t))=eOs (zHk t d l o r')
 | [],_,_,_,h=>by cases h
 | x :: l,n,r,r',h=>by
   simp only [eOs,zBC,zHk,zDx]
   simp only [getT] at h
   by_cases hx:x.name=o
   ·have h':(x.name == o)=true:=by simpa using hx
    rw [h',cond_true] at h
    simp only [Option.some.injEq] at h
    subst h
    simp only [TO.name] at hx
    simp only [hx,if_true,beq_self_eq_true,cond_true,eOs,eO,TO.name]
   ·have h':(x.name == o)=false:=by simpa using hx
    rw [h',cond_false] at h
    simp only [hx,if_false,h',cond_false,eOs,zRd l h]
theorem zRb {o:Nat} {t:GT} {d:Bool} {r:List t.Den} {i:Nat}:∀ (l:List TO) {n:Nat} {cs cs':List V},getT l o=some (.opn n t d r i cs)→zBC (eOs l) o (((r.map (encC d t)).set i (eL cs)).set i (eL cs'))=eOs (zAf l o cs')
 | [],_,_,_,h=>by cases h
 | x :: l,n,cs,cs',h=>by
   simp only [eOs,zBC,zAf,zDx]
   simp only [getT] at h
   by_cases hx:x.name=o
   ·have h':(x.name == o)=true:=by simpa using hx
    rw [h',cond_true] at h
    simp only [Option.some.injEq] at h
    subst h
    simp only [TO.name] at hx
    simp only [hx,if_true,beq_self_eq_true,cond_true,eOs,eO,TO.name,List.set_set]
   ·have h':(x.name == o)=false:=by simpa using hx
    rw [h',cond_false] at h
    simp only [hx,if_false,h',cond_false,eOs,zRb l h]
theorem zCP (t:Nat) (v:V):setE (eS s) t (e v)=eS (setT s t v):=by
 simp only [setE,eS,setT,eA,upd_den]
theorem zAS (d:Option Tmp) (v:V):setD (eS s) d (e v)=eS (zAc s d v):=by
 cases d with
 | none=>rfl
 | some t=>exact zCP t v
theorem zGP (o:Nat) (x:TO) (ho:x.name=o):addOb (eS s) o (eO x).k (eO x).rows (eO x).nm=eS (addT s o x):=by
 simp only [addOb,eS,addT,zPO,zQl,zEk,eOs,St.mk.injEq,List.cons.injEq,and_true,true_and]
 cases x <;> simp only [TO.name] at ho <;> subst ho <;> rfl
theorem zEj (o:Nat):killSt o (eS s)=eS (zGs o s):=by
 simp only [killSt,eS,zGs,zPO,zQl,zEk]
theorem zSo {n t:Nat} {al:List (Nat×SV)} (h:n≤t):lkp (den n al) t = .u:=zGZ _ _ (by simpa [den] using h)
theorem zCL (t:Nat):lkp (eS s).env t=e (zBX s t):=by
 unfold zBX eS
 cases h:Nat.blt t s.n with
 | true =>
   have:t<s.n:=Nat.le_of_ble_eq_true h
   rw [lkp_den this,zQx]
 | false =>
   have:¬ t<s.n:=fun hl=>by rw [Nat.ble_eq_true_of_le (show t+1≤s.n from hl) |> (show Nat.blt t s.n=true from ·)] at h;cases h
   rw [zSo (by omega)];rfl
theorem ofC_e (v:Value):e (ofC v)=zBs v:=by
 unfold ofC
 split <;> first | rfl | (unfold zBs;split <;> simp_all [e])
theorem zAj:∀ x:Operand,AM.ev (eS s).env x=e (evT s x)
 | .tmp t=>zCL t
 | .const v=>(ofC_e v).symm
 | .global _=>rfl
 | .func f=>rfl
theorem zCG (x:Operand):strip (eS s) x=eS (zAo s x):=by
 cases x with
 | tmp t =>
   simp only [strip,zAo]
   rw [zCL,zBL]
   cases zAv (zBX s t)
   ·rfl
   ·exact zCP t .u
 | _=>rfl
theorem zGw:∀ (l:List Operand) {s:TS},zED (eS s) l=eS (zFI s l)
 | [],_=>rfl
 | x :: l,s=>by simp only [zED,zFI,zCG,zGw l]
theorem zJU:∀ (l:List Operand) {s:TS},zEI (eS s) l=eL (zIa s l)
 | [],_=>rfl
 | x :: l,s=>by simp only [zEI,zIa,eL,zCG,zAj,zJU l]
theorem zCW (v:V):cellsOf (e v)=eL (zAi v):=by cases v <;> rfl
end
end Go.TM
end
