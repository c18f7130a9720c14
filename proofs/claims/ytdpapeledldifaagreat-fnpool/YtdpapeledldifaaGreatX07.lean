/- Part 8 of the proof that the law FnPool holds of every input; no condition. -/
import Derived.Test.YtdpapeledldifaaGreatX06
set_option autoImplicit true
set_option relaxedAutoImplicit true
set_option linter.all false
section
namespace Go.TM
open Go.AM
inductive GT
 | int (k:IntKind) | byte | bool | str | sl (e:GT) | unit | pair (a b:GT)
@[reducible] def GT.Den:GT→Type
 | .int _=>Int
 | .byte=>UInt8
 | .bool=>Bool
 | .str=>List UInt8
 | .sl e=>List e.Den
 | .unit=>Unit
 | .pair a b=>a.Den×b.Den
def GT.sz:GT→Nat
 | .unit=>0
 | .pair a b=>a.sz+b.sz
 | _=>1
def GT.flat:GT→Bool
 | .sl _=>false
 | .pair a b=>a.flat && b.flat
 | _=>true
def GT.dflt:(t:GT)→t.Den
 | .int _=>(0:Int)
 | .byte=>(0:UInt8)
 | .bool=>false
 | .str=>([]:List UInt8)
 | .sl _=>[]
 | .unit=>()
 | .pair a b=>(a.dflt,b.dflt)
def eqK (a b:IntKind):Bool:=decide (a=b)
def GT.same:GT→GT→Bool
 | .int k,.int k'=>eqK k k'
 | .byte,.byte=>true
 | .bool,.bool=>true
 | .str,.str=>true
 | .sl a,.sl b=>a.same b
 | .unit,.unit=>true
 | .pair a b,.pair c d=>a.same c && b.same d
 | _,_=>false
theorem GT.same_eq : ∀ {a b : GT}, a.same b = true → a = b
 | .int k, .int k', h => by simp only [same, eqK, decide_eq_true_eq] at h; rw [h]
 | .byte, .byte, _ => rfl
 | .bool, .bool, _ => rfl
 | .str, .str, _ => rfl
 | .unit, .unit, _ => rfl
 | .sl a, .sl b, h => by rw [same_eq (a := a) (b := b) h]
 | .pair a b, .pair c d, h => by
  simp only [same, Bool.and_eq_true] at h
  rw [same_eq h.1, same_eq h.2]
def castL {a b:GT} (h:a.same b=true) (l:List b.Den):List a.Den:=(GT.same_eq h) ▸ l
def encC (d:Bool):(t:GT)→t.Den→List SV
 | .int k,n=>[.i k n]
 | .byte,c=>[.i .u8 (c:UInt8).toNat]
 | .bool,x=>[.b x]
 | .str,x=>[.s x]
 | .sl e,l=>[match d with | true=>.own e.sz ((l:List e.Den).map (encC d e)) | false=>.sl e.sz ((l:List e.Den).map (encC d e))]
 | .unit,_=>[]
 | .pair a b,x=>encC d a x.1++encC d b x.2
inductive V
 | u | sk
 | i (k:IntKind) (n:Int)
 | b (x:Bool)
 | s (x:List UInt8)
 | sl (t:GT) (l:List t.Den)
 | own (t:GT) (d:Bool) (l:List t.Den)
 | emp (t:GT)
 | ar (o:Nat)
 | p (o i off:Nat)
 | ro (cells:List V)
 | nilp | nil
 | fn (f:Nat) (caps:List V)
 | agg (cells:List V)
 | tup (vs:List V)
def cells (d:Bool):(t:GT)→t.Den→List V
 | .int k,n=>[.i k n]
 | .byte,c=>[.i .u8 (c:UInt8).toNat]
 | .bool,x=>[.b x]
 | .str,x=>[.s x]
 | .sl e,l=>[match d with | true=>.own e d l | false=>.sl e l]
 | .unit,_=>[]
 | .pair a b,x=>cells d a x.1++cells d b x.2
mutual
def e:V→SV
 | .u=>.u
 | .sk=>.sk
 | .i k n=>.i k n
 | .b x=>.b x
 | .s x=>.s x
 | .sl t l=>.sl t.sz (l.map (encC false t))
 | .own t d l=>.own t.sz (l.map (encC d t))
 | .emp t=>.own t.sz []
 | .ar o=>.ar o
 | .p o i off=>.p o i off
 | .ro cs=>.ro (eL cs)
 | .nilp=>.nilp
 | .nil=>.nil
 | .fn f cs=>.fn f (eL cs)
 | .agg cs=>.agg (eL cs)
 | .tup cs=>.tup (eL cs)
def eL:List V→List SV
 | []=>[]
 | x :: l=>e x :: eL l
end
theorem eL_map:∀ l:List V,eL l=l.map e
 | []=>rfl
 | x :: l=>by simp only [eL,List.map_cons,eL_map l]
theorem eL_append (a b:List V):eL (a++b)=eL a++eL b:=by simp only [eL_map,List.map_append]
theorem eL_length (l:List V):(eL l).length=l.length:=by simp only [eL_map,List.length_map]
theorem eL_cells (d:Bool):∀ (t:GT) (x:t.Den),eL (cells d t x)=encC d t x
 | .int _,_=>rfl
 | .byte,_=>rfl
 | .bool,_=>rfl
 | .str,_=>rfl
 | .sl _,_=>by cases d <;> rfl
 | .unit,_=>rfl
 | .pair a b,x=>by simp only [cells,encC,eL_append,eL_cells d a,eL_cells d b]
theorem encC_length (d:Bool):∀ (t:GT) (x:t.Den),(encC d t x).length=t.sz
 | .int _,_=>rfl
 | .byte,_=>rfl
 | .bool,_=>rfl
 | .str,_=>rfl
 | .sl _,_=>rfl
 | .unit,_=>rfl
 | .pair a b,x=>by simp only [encC,List.length_append,encC_length d a,encC_length d b,GT.sz]
theorem encC_flat : ∀ (t : GT) (d d' : Bool) (x : t.Den), t.flat = true → encC d t x = encC d' t x
 | .int _, _, _, _, _ => rfl
 | .byte, _, _, _, _ => rfl
 | .bool, _, _, _, _ => rfl
 | .str, _, _, _, _ => rfl
 | .sl _, _, _, _, h => by cases h
 | .unit, _, _, _, _ => rfl
 | .pair a b, d, d', x, h => by
  simp only [GT.flat, Bool.and_eq_true] at h
  simp only [encC, encC_flat a d d' _ h.1, encC_flat b d d' _ h.2]
theorem map_flat {t:GT} (d d':Bool) (l:List t.Den) (h:t.flat=true):l.map (encC d t)=l.map (encC d' t) :=
 List.map_congr_left fun x _=>encC_flat t d d' x h
inductive TO
 | box (n:Nat) (cs:List V)
 | arr (n:Nat) (t:GT) (d:Bool) (l:List t.Den)
 | opn (n:Nat) (t:GT) (d:Bool) (l:List t.Den) (i:Nat) (cs:List V)
structure TS where
 n:Nat
 al:List (Nat×V)
 ob:List TO
def TO.name:TO→Nat
 | .box n _=>n
 | .arr n _ _ _=>n
 | .opn n _ _ _ _ _=>n
def eO:TO→Ob
 | .box n cs=>⟨n,cs.length,[eL cs],true⟩
 | .arr n t d l=>⟨n,t.sz,l.map (encC d t),false⟩
 | .opn n t d l i cs=>⟨n,t.sz,(l.map (encC d t)).set i (eL cs),true⟩
def eOs:List TO→List Ob
 | []=>[]
 | x :: l=>eO x :: eOs l
def eA:List (Nat×V)→List (Nat×SV)
 | []=>[]
 | p :: l=>(p.1,e p.2) :: eA l
def eS (s:TS):St:=⟨den s.n (eA s.al),eOs s.ob⟩
def lookV:List (Nat×V)→Nat→V
 | [],_=>.u
 | p :: l,t=>bif p.1 == t then p.2 else lookV l t
def lkV:List V→Nat→V
 | [],_=>.u
 | x :: _,0=>x
 | _ :: l,n+1=>lkV l n
def updV:List V→Nat→V→List V
 | [],_,_=>[]
 | _ :: l,0,v=>v :: l
 | x :: l,n+1,v=>x :: updV l n v
def overV:List V→List V→List V
 | [],row=>row
 | _ :: _,[]=>[]
 | c :: cs,_ :: row=>c :: overV cs row
def wrV:List V→Nat→List V→List V
 | row,0,cs=>overV cs row
 | [],_+1,_=>[]
 | x :: row,n+1,cs=>x :: wrV row n cs
mutual
def hasOwnV:V→Bool
 | .own _ _ _=>true
 | .emp _=>true
 | .agg cs=>hasOwnVL cs
 | .tup cs=>hasOwnVL cs
 | _=>false
def hasOwnVL:List V→Bool
 | []=>false
 | x :: l=>hasOwnV x || hasOwnVL l
end
def plainV:V→Bool
 | .i _ _ | .b _ | .s _ | .sl _ _ | .own _ _ _ | .emp _ | .nil=>true
 | _=>false
def plainVL:List V→Bool
 | []=>true
 | x :: l=>plainV x && plainVL l
def cell1V:V→Bool
 | .u | .sk | .agg _ | .tup _=>false
 | _=>true
def cells1V:List V→Bool
 | []=>true
 | x :: l=>cell1V x && cells1V l
mutual
def killV (o:Nat):V→V
 | .ar n=>bif n == o then .u else .ar n
 | .p n i off=>bif n == o then .u else .p n i off
 | .fn f caps=>.fn f (killVL o caps)
 | .agg cs=>.agg (killVL o cs)
 | .tup cs=>.tup (killVL o cs)
 | .u=>.u
 | .sk=>.sk
 | .i k n=>.i k n
 | .b x=>.b x
 | .s x=>.s x
 | .sl t r=>.sl t r
 | .own t d r=>.own t d r
 | .emp t=>.emp t
 | .ro c=>.ro c
 | .nilp=>.nilp
 | .nil=>.nil
def killVL (o:Nat):List V→List V
 | []=>[]
 | x :: l=>killV o x :: killVL o l
end
def killAV (o:Nat):List (Nat×V)→List (Nat×V)
 | []=>[]
 | p :: l=>(p.1,killV o p.2) :: killAV o l
def killOV (o:Nat):List TO→List TO
 | []=>[]
 | x :: l=>bif x.name == o then killOV o l else (match x with | .box n cs=>.box n (killVL o cs) | .arr n t d l=>.arr n t d l | .opn n t d l i cs=>.opn n t d l i (killVL o cs)) :: killOV o l
def killT (o:Nat) (s:TS):TS:=⟨s.n,killAV o s.al,killOV o s.ob⟩
def getT:List TO→Nat→Option TO
 | [],_=>none
 | x :: l,o=>bif x.name == o then some x else getT l o
def setBoxT:List TO→Nat→List V→List TO
 | [],_,_=>[]
 | x :: l,o,cs=>bif x.name == o then .box x.name cs :: l else x :: setBoxT l o cs
def setArrT (t:GT) (d:Bool):List TO→Nat→List t.Den→List TO
 | [],_,_=>[]
 | x :: l,o,r=>bif x.name == o then .arr x.name t d r :: l else x :: setArrT t d l o r
def setOpnT:List TO→Nat→List V→List TO
 | [],_,_=>[]
 | x :: l,o,cs=>bif x.name == o then (match x with | .opn n t d r i _=>.opn n t d r i cs | y=>y) :: l else x :: setOpnT l o cs
def setT (s:TS) (t:Nat) (v:V):TS:=⟨s.n,(t,v) :: s.al,s.ob⟩
def setDT (s:TS) (d:Option Tmp) (v:V):TS:=match d with | some t=>setT s t v | none=>s
def addT (s:TS) (o:Nat) (x:TO):TS:=⟨s.n,killAV o s.al,x :: killOV o s.ob⟩
def ofC:Value→V
 | .int k n=>.i k n
 | .bool b=>.b b
 | .string s=>.s s.data.toList
 | .slice none 0 0=>.nil
 | .pointer none=>.nilp
 | _=>.u
def lookT (s:TS) (t:Nat):V:=match Nat.blt t s.n with
 | true=>lookV s.al t
 | false=>.u
def evT (s:TS):Operand→V
 | .tmp t=>lookT s t
 | .const v=>ofC v
 | .global _=>.u
 | .func f=>.fn f []
def stripT (s : TS) (x : Operand) : TS := match x with
 | .tmp t => match hasOwnV (lookT s t) with
  | true => setT s t .u
  | false => s
 | _ => s
def stripTL (s:TS):List Operand→TS
 | []=>s
 | x :: l=>stripTL (stripT s x) l
def valsT (s:TS):List Operand→List V
 | []=>[]
 | x :: l=>evT s x :: valsT (stripT s x) l
def cellsOfV:V→List V
 | .agg cs=>cs
 | v=>[v]
section
variable {s:TS}
theorem e_lookV : ∀ (al : List (Nat × V)) (t : Nat), e (lookV al t) = AM.look (eA al) t
 | [], _ => rfl
 | p :: l, t => by
  simp only [lookV, eA, AM.look]
  cases p.1 == t
  ·exact e_lookV l t
  ·rfl
theorem e_lkV:∀ (l:List V) (n:Nat),e (lkV l n)=lkp (eL l) n
 | [],_=>rfl
 | _ :: _,0=>rfl
 | _ :: l,n+1=>e_lkV l n
theorem eL_updV:∀ (l:List V) (n:Nat) (v:V),eL (updV l n v)=upd (eL l) n (e v)
 | [],_,_=>rfl
 | _ :: _,0,_=>rfl
 | x :: l,n+1,v=>by simp only [updV,eL,upd,eL_updV l n v]
theorem eL_overV:∀ (cs row:List V),eL (overV cs row)=over (eL cs) (eL row)
 | [],_=>rfl
 | _ :: _,[]=>rfl
 | c :: cs,_ :: row=>by simp only [overV,eL,over,eL_overV cs row]
theorem eL_wrV:∀ (row:List V) (n:Nat) (cs:List V),eL (wrV row n cs)=wr (eL row) n (eL cs)
 | row,0,cs=>by cases row <;> simp only [wrV,wr,eL_overV,eL]
 | [],_+1,_=>rfl
 | x :: row,n+1,cs=>by simp only [wrV,eL,wr,eL_wrV row n cs]
theorem wrV_length (row:List V) (n:Nat) (cs:List V) (h:n+cs.length≤row.length):(wrV row n cs).length=row.length:=by
 rw [← eL_length,eL_wrV,wr_length _ _ _ (by simpa only [eL_length] using h),eL_length]
mutual
theorem hasOwn_e:∀ v:V,hasOwn (e v)=hasOwnV v
 | .u | .sk | .i _ _ | .b _ | .s _ | .sl _ _ | .own _ _ _ | .emp _ | .ar _ | .p _ _ _ | .ro _ | .nilp | .nil | .fn _ _=>rfl
 | .agg cs=>hasOwnL_e cs
 | .tup cs=>hasOwnL_e cs
theorem hasOwnL_e:∀ l:List V,hasOwnL (eL l)=hasOwnVL l
 | []=>rfl
 | x :: l=>by simp only [eL,hasOwnL,hasOwnVL,hasOwn_e x,hasOwnL_e l]
end
theorem plain_e (v:V):plain (e v)=plainV v:=by cases v <;> rfl
theorem plainL_e:∀ l:List V,plainL (eL l)=plainVL l
 | []=>rfl
 | x :: l=>by simp only [eL,plainL,plainVL,plain_e x,plainL_e l]
theorem cell1_e (v:V):cell1 (e v)=cell1V v:=by cases v <;> rfl
theorem cells1_e:∀ l:List V,cells1 (eL l)=cells1V l
 | []=>rfl
 | x :: l=>by simp only [eL,cells1,cells1V,cell1_e x,cells1_e l]
mutual
theorem kill_e (o:Nat):∀ v:V,kill o (e v)=e (killV o v)
 | .u | .sk | .i _ _ | .b _ | .s _ | .sl _ _ | .own _ _ _ | .emp _ | .ro _ | .nilp | .nil=>rfl
 | .ar n=>by simp only [e,kill,killV];by_cases h:n=o <;> simp [h,e,(show (n == o)=decide (n=o) from rfl)]
 | .p n i off=>by simp only [e,kill,killV];by_cases h:n=o <;> simp [h,e,(show (n == o)=decide (n=o) from rfl)]
 | .fn f cs=>by simp only [e,kill,killV,killL_e o cs]
 | .agg cs=>by simp only [e,kill,killV,killL_e o cs]
 | .tup cs=>by simp only [e,kill,killV,killL_e o cs]
theorem killL_e (o:Nat):∀ l:List V,killL o (eL l)=eL (killVL o l)
 | []=>rfl
 | x :: l=>by simp only [eL,killL,killVL,kill_e o x,killL_e o l]
end
theorem killVL_length (o:Nat) (l:List V):(killVL o l).length=l.length:=by rw [← eL_length,← killL_e,killL_length,eL_length]
theorem killA_e (o:Nat):∀ al:List (Nat×V),killA o (eA al)=eA (killAV o al)
 | []=>rfl
 | p :: l=>by simp only [eA,killA,killAV,kill_e,killA_e o l]
theorem eO_name (x:TO):(eO x).name=x.name:=by cases x <;> rfl
mutual
theorem kill_id (o:Nat):∀ v:SV,plain v=true→kill o v=v
 | .i _ _,_=>rfl
 | .b _,_=>rfl
 | .s _,_=>rfl
 | .sl _ _,_=>rfl
 | .own _ _,_=>rfl
 | .nil,_=>rfl
 | .u,_=>rfl
 | .sk,_=>rfl
 | .nilp,_=>rfl
 | .ar _,h=>by simp [plain] at h
 | .p _ _ _,h=>by simp [plain] at h
 | .ro _,h=>by simp [plain] at h
 | .fn _ _,h=>by simp [plain] at h
 | .agg _,h=>by simp [plain] at h
 | .tup _,h=>by simp [plain] at h
end
theorem killL_id (o : Nat) : ∀ l : List SV, plainL l = true → killL o l = l
 | [], _ => rfl
 | x :: l, h => by
  simp only [plainL, Bool.and_eq_true] at h
  simp only [killL, kill_id o x h.1, killL_id o l h.2]
theorem plainL_app:∀ a b:List SV,plainL (a++b)=(plainL a && plainL b)
 | [],_=>rfl
 | x :: a,b=>by simp only [List.cons_append,plainL,plainL_app a b,Bool.and_assoc]
theorem plain_enc:∀ (t:GT) (d:Bool) (x:t.Den),plainL (encC d t x)=true
 | .int _,_,_=>rfl
 | .byte,_,_=>rfl
 | .bool,_,_=>rfl
 | .str,_,_=>rfl
 | .sl _,d,_=>by cases d <;> rfl
 | .unit,_,_=>rfl
 | .pair a b,d,x=>by simp only [encC,plainL_app,plain_enc a d x.1,plain_enc b d x.2,Bool.and_self]
theorem killRows_enc (o:Nat) (t:GT) (d:Bool):∀ l:List t.Den,killRows o (l.map (encC d t))=l.map (encC d t)
 | []=>rfl
 | x :: l=>by simp only [List.map_cons,killRows,killL_id o _ (plain_enc t d x),killRows_enc o t d l]
theorem killRows_set (o:Nat):∀ (rows:List (List SV)) (i:Nat) (r:List SV),killRows o (rows.set i r)=(killRows o rows).set i (killL o r)
 | [],i,r=>rfl
 | x :: l,0,r=>rfl
 | x :: l,i+1,r=>by simp only [List.set_cons_succ,killRows,killRows_set o l i r]
theorem killOb_e (o : Nat) : ∀ l : List TO, killOb o (eOs l) = eOs (killOV o l)
 | [] => rfl
 | x :: l => by
  simp only [eOs, killOb, killOV, eO_name]
  by_cases h : x.name = o
  ·simp only [h, if_true, beq_self_eq_true, cond_true, killOb_e o l]
  ·have h' : (x.name == o) = false := by simpa using h
   simp only [h, if_false, h', cond_false, eOs, killOb_e o l]
   cases x with
   | box n cs => simp only [eO, if_true, killRows, killL_e, killVL_length, TO.name]
   | arr n t d l => simp only [eO, Bool.false_eq_true, if_false, TO.name]
   | opn n t d l i cs => simp only [eO, if_true, TO.name, killRows_set, killRows_enc, killL_e]
theorem getOb_e : ∀ (l : List TO) (o : Nat), getOb (eOs l) o = (getT l o).map eO
 | [], _ => rfl
 | x :: l, o => by
  simp only [eOs, getOb, getT, eO_name]
  by_cases h : x.name = o
  ·simp [h]
  ·have h' : (x.name == o) = false := by simpa using h
   simp only [h, if_false, h', cond_false, getOb_e l o]
theorem setBox_e {o : Nat} : ∀ (l : List TO) {n : Nat} {cs cs' : List V}, getT l o = some (.box n cs) → cs'.length = cs.length → setRows (eOs l) o ([eL cs].set 0 (eL cs')) = eOs (setBoxT l o cs')
 | [], _, _, _, h, _ => by cases h
 | x :: l, n, cs, cs', h, hl => by
  simp only [eOs, setRows, setBoxT, eO_name]
  simp only [getT] at h
  by_cases hx : x.name = o
  ·have h' : (x.name == o) = true := by simpa using hx
   rw [h', cond_true] at h
   simp only [Option.some.injEq] at h
   subst h
   simp only [TO.name] at hx
   simp only [hx, if_true, cond_true, eOs, eO, TO.name, List.set_cons_zero, hl, beq_self_eq_true]
  ·have h' : (x.name == o) = false := by simpa using hx
   rw [h', cond_false] at h
   simp only [hx, if_false, h', cond_false, eOs, setBox_e l h hl]
theorem setArr_e {o : Nat} {t : GT} {d : Bool} : ∀ (l : List TO) {n : Nat} {r r' : List t.Den}, getT l o = some (.arr n t d r) → setRows (eOs l) o (r'.map (encC d t)) = eOs (setArrT t d l o r')
 | [], _, _, _, h => by cases h
 | x :: l, n, r, r', h => by
  simp only [eOs, setRows, setArrT, eO_name]
  simp only [getT] at h
  by_cases hx : x.name = o
  ·have h' : (x.name == o) = true := by simpa using hx
   rw [h', cond_true] at h
   simp only [Option.some.injEq] at h
   subst h
   simp only [TO.name] at hx
   simp only [hx, if_true, beq_self_eq_true, cond_true, eOs, eO, TO.name]
  ·have h' : (x.name == o) = false := by simpa using hx
   rw [h', cond_false] at h
   simp only [hx, if_false, h', cond_false, eOs, setArr_e l h]
theorem setOpn_e {o : Nat} {t : GT} {d : Bool} {r : List t.Den} {i : Nat} : ∀ (l : List TO) {n : Nat} {cs cs' : List V}, getT l o = some (.opn n t d r i cs) → setRows (eOs l) o (((r.map (encC d t)).set i (eL cs)).set i (eL cs')) = eOs (setOpnT l o cs')
 | [], _, _, _, h => by cases h
 | x :: l, n, cs, cs', h => by
  simp only [eOs, setRows, setOpnT, eO_name]
  simp only [getT] at h
  by_cases hx : x.name = o
  ·have h' : (x.name == o) = true := by simpa using hx
   rw [h', cond_true] at h
   simp only [Option.some.injEq] at h
   subst h
   simp only [TO.name] at hx
   simp only [hx, if_true, beq_self_eq_true, cond_true, eOs, eO, TO.name, List.set_set]
  ·have h' : (x.name == o) = false := by simpa using hx
   rw [h', cond_false] at h
   simp only [hx, if_false, h', cond_false, eOs, setOpn_e l h]
theorem setE_e (t:Nat) (v:V):setE (eS s) t (e v)=eS (setT s t v):=by
 simp only [setE,eS,setT,eA,upd_den]
theorem setD_e (d:Option Tmp) (v:V):setD (eS s) d (e v)=eS (setDT s d v):=by
 cases d with
 | none=>rfl
 | some t=>exact setE_e t v
theorem addOb_e (o:Nat) (x:TO) (ho:x.name=o):addOb (eS s) o (eO x).k (eO x).rows (eO x).nm=eS (addT s o x):=by
 simp only [addOb,eS,addT,killL_den,killA_e,killOb_e,eOs,St.mk.injEq,List.cons.injEq,and_true,true_and]
 cases x <;> simp only [TO.name] at ho <;> subst ho <;> rfl
theorem killSt_e (o:Nat):killSt o (eS s)=eS (killT o s):=by
 simp only [killSt,eS,killT,killL_den,killA_e,killOb_e]
theorem lkp_den_ge {n t:Nat} {al:List (Nat×SV)} (h:n≤t):lkp (den n al) t = .u:=lkp_ge _ _ (by simpa [den] using h)
theorem e_lookT (t : Nat) : lkp (eS s).env t = e (lookT s t) := by
 unfold lookT eS
 cases h : Nat.blt t s.n with
 | true =>
  have : t < s.n := Nat.le_of_ble_eq_true h
  rw [lkp_den this, e_lookV]
 | false =>
  have : ¬ t < s.n := fun hl => by rw [Nat.ble_eq_true_of_le (show t + 1 ≤ s.n from hl) |> (show Nat.blt t s.n = true from ·)] at h; cases h
  rw [lkp_den_ge (by omega)]; rfl
theorem ofC_e (v:Value):e (ofC v)=ofConst v:=by
 unfold ofC
 split <;> first | rfl | (unfold ofConst;split <;> simp_all [e])
theorem e_evT:∀ x:Operand,AM.ev (eS s).env x=e (evT s x)
 | .tmp t=>e_lookT t
 | .const v=>(ofC_e v).symm
 | .global _=>rfl
 | .func f=>rfl
theorem strip_e (x : Operand) : strip (eS s) x = eS (stripT s x) := by
 cases x with
 | tmp t =>
  simp only [strip, stripT]
  rw [e_lookT, hasOwn_e]
  cases hasOwnV (lookT s t)
  ·rfl
  ·exact setE_e t .u
 | _ => rfl
theorem stripL_e:∀ (l:List Operand) {s:TS},stripL (eS s) l=eS (stripTL s l)
 | [],_=>rfl
 | x :: l,s=>by simp only [stripL,stripTL,strip_e,stripL_e l]
theorem valsL_e:∀ (l:List Operand) {s:TS},valsL (eS s) l=eL (valsT s l)
 | [],_=>rfl
 | x :: l,s=>by simp only [valsL,valsT,eL,strip_e,e_evT,valsL_e l]
theorem cellsOf_e (v:V):cellsOf (e v)=eL (cellsOfV v):=by cases v <;> rfl
end
end Go.TM
end
