/- Part 9 of the proof of FnTidy; no condition. -/
import Derived.Test.YtdpapeledldifaaGreatX07
set_option autoImplicit true
set_option relaxedAutoImplicit true
set_option linter.all false
section
namespace Go.TM
open Go.AM
section
variable {R α X:Type}
def cndO (t:Bool)(A B:Option R):Option R:=match t with|true=>A|false=>B
def grdO (p:Bool)(A:Option R):Option R:=match p with|true=>A|false=>none
def chkO (p:Bool)(A:Option R):Option R:=match p with|true=>A|false=>none
def atO (l:List α)(n:Nat)(k:α→Option R):Option R:=match l[n]? with|some x=>k x|none=>none
def zAA (x:Option α)(k:α→Option R):Option R:=match x with|some a=>k a|none=>none
noncomputable def zBK (a b:Option R):Option R:=@ite _ (a=b) (Classical.propDecidable _) a none
def zLW {a b:Option R}{r:R}(h:zBK a b=some r):a=some r∧b=some r:=by
 unfold zBK at h;split at h
 ·rename_i he;exact⟨h,by rw[←he];exact h⟩
 ·cases h
def zKU {t:Bool}{A B:Option R}{r:R}(h:cndO t A B=some r):(t=true∧A=some r)∨(t=false∧B=some r):=by
 cases t
 ·exact .inr ⟨rfl,h⟩
 ·exact .inl ⟨rfl,h⟩
def zAP {p:Bool}{A:Option R}{r:R}(h:grdO p A=some r):p=true∧A=some r:=by cases p;cases h;exact⟨rfl,h⟩
def zAF {p:Bool}{A:Option R}{r:R}(h:chkO p A=some r):p=true∧A=some r:=by cases p;cases h;exact⟨rfl,h⟩
def zFI {l:List α}{n:Nat}{k:α→Option R}{r:R}(h:atO l n k=some r):∃x,l[n]? = some x∧k x=some r:=by
 unfold atO at h;split at h
 ·exact⟨_,by assumption,h⟩
 ·cases h
def zLX {x:Option α}{k:α→Option R}{r:R}(h:zAA x k=some r):∃a,x=some a∧k a=some r:=by
 cases x
 ·cases h
 ·exact⟨_,rfl,h⟩
end
def gtF (g:Nat→Option GT):List (Nat×Nat)→Option GT
 |[]=>some .unit
 | f::fs=>match fs with
   |[]=>g f.1
   | _::_=>match g f.1,gtF g fs with
     |some a,some b=>some (.pair a b)
     |_,_=>none
def gtI:IntKind→GT
 |.u8=>.byte
 |k=>.int k
def gt (T:Nat→TI):Nat→Nat→Option GT
 |0,_=>none
 | n+1,t=>match(T t).kind with
   |.int k=>some (gtI k)
   |.bool=>some .bool
   |.str=>some .str
   | .slice e=>match gt T n e with
     |some a=>some (.sl a)
     |none=>none
   |.struct fs=>gtF (gt T n) fs
   |_=>none
def shOk (T:Nat→TI):GT→List TK→Option (List TK)
 | .int k,ks=>match ks with
   |.int k'::r=>bif eqK k k' then some r else none
   |_=>none
 | .byte,ks=>match ks with
   |.int .u8::r=>some r
   |_=>none
 | .bool,ks=>match ks with
   |.bool::r=>some r
   |_=>none
 | .str,ks=>match ks with
   |.str::r=>some r
   |_=>none
 | .sl e,ks=>match ks with
   |.slice t::r=>bif (T t).size==e.sz then some r else none
   |_=>none
 |.unit,ks=>some ks
 | .pair a b,ks=>match shOk T a ks with
   |some r=>shOk T b r
   |none=>none
def isNone:Option (List TK)→Bool
 |some []=>true
 |_=>false
def tyOk (T:Nat→TI)(t:Nat)(g:GT):Bool:=isNone (shOk T g (flat T 4 t))&&(T t).size==g.sz
def zHp {T:Nat→TI}:∀(g:GT) (ks r:List TK) (x:g.Den) (row:List SV),shOk T g ks=some r→zHA T r row→zHA T ks (encC false g x++row)
 | .int k,ks,r,x,row,h,hr=>by
   unfold shOk at h;split at h
   ·rename_i k' r';cases hk:eqK k k' with
    |true=>rw[hk,cond_true]at h;simp only[zSe]at h;subst h;simp only[eqK,zDe]at hk;exact⟨hk.symm,hr⟩
    |false=>rw[hk,cond_false]at h;cases h
   ·cases h
 | .byte,ks,r,x,row,h,hr=>by
   unfold shOk at h;split at h
   ·simp only[zSe]at h;subst h;exact⟨rfl,hr⟩
   ·cases h
 | .bool,ks,r,x,row,h,hr=>by
   unfold shOk at h;split at h
   ·simp only[zSe]at h;subst h;exact⟨trivial,hr⟩
   ·cases h
 | .str,ks,r,x,row,h,hr=>by
   unfold shOk at h;split at h
   ·simp only[zSe]at h;subst h;exact⟨trivial,hr⟩
   ·cases h
 | .sl g,ks,r,x,row,h,hr=>by
   unfold shOk at h;split at h
   ·rename_i t r';cases hk:(T t).size==g.sz with
    |true=>rw[hk,cond_true]at h;simp only[zSe]at h;subst h;exact⟨(eq_of_beq hk).symm,hr⟩
    |false=>rw[hk,cond_false]at h;cases h
   ·cases h
 |.unit,ks,r,x,row,h,hr=>by simp only[shOk,zSe]at h;subst h;exact hr
 | .pair a b,ks,r,x,row,h,hr=>by
   unfold shOk at h;split at h
   ·rename_i q hq;simp only[encC,zAa]
    exact zHp a ks q _ _ hq (zHp b q r _ _ h hr)
   ·cases h
def zNW {T:Nat→TI}:∀(g:GT) (ks r:List TK) (B:List SV→Prop),shOk T g ks=some r→(∀row,zEd T r fun q=>B (row++q))→zEd T ks B
 | .int k,ks,r,B,h,hr=>by
   unfold shOk at h;split at h
   ·rename_i k' r';cases hk:eqK k k' with
    |true=>rw[hk,cond_true]at h;simp only[zSe]at h;subst h;exact fun n=>hr [.i k' n]
    |false=>rw[hk,cond_false]at h;cases h
   ·cases h
 | .byte,ks,r,B,h,hr=>by
   unfold shOk at h;split at h
   ·simp only[zSe]at h;subst h;exact fun n=>hr [.i .u8 n]
   ·cases h
 | .bool,ks,r,B,h,hr=>by
   unfold shOk at h;split at h
   ·simp only[zSe]at h;subst h;exact fun n=>hr [.b n]
   ·cases h
 | .str,ks,r,B,h,hr=>by
   unfold shOk at h;split at h
   ·simp only[zSe]at h;subst h;exact fun n=>hr [.s n]
   ·cases h
 | .sl g,ks,r,B,h,hr=>by
   unfold shOk at h;split at h
   ·rename_i t r';cases hk:(T t).size==g.sz with
    |true=>rw[hk,cond_true]at h;simp only[zSe]at h;subst h;exact fun n=>hr [.sl (T t).size n]
    |false=>rw[hk,cond_false]at h;cases h
   ·cases h
 |.unit,ks,r,B,h,hr=>by simp only[shOk,zSe]at h;subst h;exact hr []
 | .pair a b,ks,r,B,h,hr=>by
   unfold shOk at h;split at h
   ·rename_i q hq;refine zNW a ks q B hq fun row=>?_
    refine zNW b q r _ h fun row2=>?_
    have:=hr (row++row2);simpa only[zAa]using this
   ·cases h
def zXF {x:Option (List TK)}(h:isNone x=true):x=some []:=by
 unfold isNone at h;split at h
 ·rfl
 ·cases h
def zFS {T:Nat→TI}{t:Nat}{g:GT}(h:tyOk T t g=true):shOk T g (flat T 4 t)=some []∧(T t).size=g.sz:=by
 simp only[tyOk,zBa]at h;exact⟨zXF h.1,eq_of_beq h.2⟩
def zQp {T:Nat→TI}{t:Nat}{g:GT}(h:tyOk T t g=true)(l:List g.Den):shapes T (flat T 4 t) (l.map (encC false g)):=by
 intro row hr;obtain⟨x,_,rfl⟩:=List.mem_map.1 hr;have:=zHp (T:=T) g _ _ x [] (zFS h).1 rfl;simpa only[zAn]using this
def tyOk_gen {T:Nat→TI}{t:Nat}{g:GT}(h:tyOk T t g=true){B:List SV→Prop}(hB:∀ row,B row):zEd T (flat T 4 t) B :=
 zNW g _ _ B (zFS h).1 fun row=>hB _
section
variable {R:Type}
def rdC (z d:Bool):(t:GT)→List V→(t.Den→List V→Option R)→Option R
 | .int k,cs,K=>match cs with
   |.i k' n::r=>chkO (eqK k k') (K n r)
   |_=>none
 | .byte,cs,K=>match cs with
   |.i .u8 n::r=>grdO (decide (0≤n)&&decide (n≤255)) (K (UInt8.ofNat n.toNat) r)
   |_=>none
 | .bool,cs,K=>match cs with
   |.b x::r=>K x r
   |_=>none
 | .str,cs,K=>match cs with
   |.s x::r=>K x r
   |_=>none
 | .sl g,cs,K=>match d with
   | true=>match cs with
     | .own g' d' l::r=>(match hs:g.same g' with
       |true=>chkO (d'||g.flat) (K (zEj hs l) r)
       |false=>none)
     |.emp g'::r=>chkO (g.same g') (K [] r)
     |.nil::r=>chkO z (K [] r)
     |_=>none
   | false=>match cs with
     | .sl g' l::r=>(match hs:g.same g' with
       |true=>K (zEj hs l) r
       |false=>none)
     |_=>none
 |.unit,cs,K=>K () cs
 |.pair a b,cs,K=>rdC z d a cs fun x r=>rdC z d b r fun y q=>K (x,y) q
def zBV {a b:GT}(h:a.same b=true)(l:List b.Den)(d:Bool):(zEj h l).map (encC d a)=l.map (encC d b):=by
 have he:=GT.same_eq h;subst he;rfl
def zBn {a b:GT}(h:a.same b=true):a.sz=b.sz:=by rw[GT.same_eq h]
def zWQ {a b:GT}(h:a.same b=true):a.flat=b.flat:=by rw[GT.same_eq h]
def zDV {a b:GT}(h:a.same b=true)(l:List b.Den){d d':Bool}(hd:d=d'∨a.flat=true):(zEj h l).map (encC d a)=l.map (encC d' b):=by
 rw[zBV];rcases hd with rfl|hf
 ·rfl
 ·exact map_flat d d' l (by rw[←zWQ h];exact hf)
def zNe {T:Nat→TI}{z d:Bool}{r:R}:∀(g:GT) (ks ks':List TK) (cs:List V) (K:g.Den→List V→Option R),shOk T g ks=some ks'→rdC z d g cs K=some r →
  ∃x rest,K x rest=some r∧zCX T ks (eL cs)=encC d g x++zCX T ks' (eL rest)∧(z=false→eL cs=encC d g x++eL rest)
 | .int k,ks,ks',cs,K,hs,h=>by
   unfold rdC at h;unfold shOk at hs;split at hs
   ·rename_i k1 r1;split at h
    ·rename_i k2 n q;obtain⟨h1,h2⟩:=zAF h;simp only[eqK,zDe]at h1;subst h1;cases hk:eqK k k1 with
     | true=>
       rw[hk,cond_true]at hs;simp only[zSe]at hs;subst hs;exact⟨n,q,h2,rfl,fun _=>rfl⟩
     |false=>rw[hk,cond_false]at hs;cases hs
    ·cases h
   ·cases hs
 | .byte,ks,ks',cs,K,hs,h=>by
   unfold rdC at h;unfold shOk at hs;split at hs
   ·rename_i r1;simp only[zSe]at hs;subst hs;split at h
    ·rename_i n q;obtain⟨h1,h2⟩:=zAP h;simp only[zBa,zDe]at h1
     have hn:((UInt8.ofNat n.toNat).toNat:Int)=n:=by
      rw[UInt8.toNat_ofNat'];omega
     refine⟨_,q,h2,?_,fun _=>?_⟩
     ·simp only[eL,e,encC,hn,zCX];rfl
     ·simp only[eL,e,encC,hn];rfl
    ·cases h
   ·cases hs
 | .bool,ks,ks',cs,K,hs,h=>by
   unfold rdC at h;unfold shOk at hs;split at hs
   ·simp only[zSe]at hs;subst hs;split at h
    ·exact⟨_,_,h,rfl,fun _=>rfl⟩
    ·cases h
   ·cases hs
 | .str,ks,ks',cs,K,hs,h=>by
   unfold rdC at h;unfold shOk at hs;split at hs
   ·simp only[zSe]at hs;subst hs;split at h
    ·exact⟨_,_,h,rfl,fun _=>rfl⟩
    ·cases h
   ·cases hs
 | .sl g,ks,ks',cs,K,hs,h=>by
   unfold rdC at h;unfold shOk at hs;split at hs
   ·rename_i t r1;cases hk:(T t).size==g.sz with
    |false=>rw[hk,cond_false]at hs;cases hs
    | true=>
      have hsz:=eq_of_beq hk;rw[hk,cond_true]at hs;simp only[zSe]at hs;subst hs;split at h
      ·split at h
       ·rename_i g' d' l q;split at h
        ·rename_i hsm;obtain⟨h1,h2⟩:=zAF h
         have hd:true=d'∨g.flat=true:=by
          cases d'<;>simp_all
         refine⟨_,_,h2,?_,fun _=>?_⟩
         ·simp only[eL,e,encC,zCX,zUk,zDV hsm l hd,zBn hsm,zCa,zNa]
         ·simp only[eL,e,encC,zDV hsm l hd,zBn hsm,zCa,zNa]
        ·cases h
       ·obtain⟨h1,h2⟩:=zAF h;refine⟨_,_,h2,?_,fun hz=>?_⟩
        ·simp only[eL,e,encC,zCX,zUk,List.map_nil,zBn h1,zCa,zNa]
        ·simp only[eL,e,encC,List.map_nil,zBn h1,zCa,zNa]
       ·obtain⟨h1,h2⟩:=zAF h;refine⟨_,_,h2,?_,fun hz=>?_⟩
        ·simp only[eL,e,encC,zCX,zUk,List.map_nil,hsz,zCa,zNa]
        ·rw[hz]at h1;cases h1
       ·cases h
      ·split at h
       ·rename_i g' l q;split at h
        ·rename_i hsm;refine⟨_,_,h,?_,fun _=>?_⟩
         ·simp only[eL,e,encC,zCX,zUk,zBV hsm l,zBn hsm,zCa,zNa]
         ·simp only[eL,e,encC,zBV hsm l,zBn hsm,zCa,zNa]
        ·cases h
       ·cases h
   ·cases hs
 | .unit,ks,ks',cs,K,hs,h=>by
   simp only[shOk,zSe]at hs;subst hs;exact⟨(),cs,h,rfl,fun _=>rfl⟩
 | .pair a b,ks,ks',cs,K,hs,h=>by
   unfold shOk at hs;split at hs
   ·rename_i q hq;unfold rdC at h;obtain⟨x,r1,h1,h2,h3⟩:=zNe a ks q cs _ hq h;obtain⟨y,r2,h4,h5,h6⟩:=zNe b q ks' r1 _ hs h1;refine⟨(x,y),r2,h4,?_,fun hz=>?_⟩
    ·rw[h2,h5];simp only[encC,zAa]
    ·rw[h3 hz,h6 hz];simp only[encC,zAa]
   ·cases hs
def zJm {d:Bool}{r:R}:∀(g:GT) (cs:List V) (K:g.Den→List V→Option R),rdC false d g cs K=some r →
  ∃x rest,K x rest=some r∧eL cs=encC d g x++eL rest
 | .int k,cs,K,h=>by
   unfold rdC at h;split at h
   ·obtain⟨h1,h2⟩:=zAF h;simp only[eqK,zDe]at h1;subst h1;exact⟨_,_,h2,rfl⟩
   ·cases h
 | .byte,cs,K,h=>by
   unfold rdC at h;split at h
   ·rename_i n q;obtain⟨h1,h2⟩:=zAP h;simp only[zBa,zDe]at h1
    have hn:((UInt8.ofNat n.toNat).toNat:Int)=n:=by
     rw[UInt8.toNat_ofNat'];omega
    exact⟨_,q,h2,by simp only[eL,e,encC,hn];rfl⟩
   ·cases h
 | .bool,cs,K,h=>by
   unfold rdC at h;split at h
   ·exact⟨_,_,h,rfl⟩
   ·cases h
 | .str,cs,K,h=>by
   unfold rdC at h;split at h
   ·exact⟨_,_,h,rfl⟩
   ·cases h
 | .sl g,cs,K,h=>by
   unfold rdC at h;split at h
   ·split at h
    ·rename_i g' d' l q;split at h
     ·rename_i hsm;obtain⟨h1,h2⟩:=zAF h;have hd:true=d'∨g.flat=true:=by cases d'<;>simp_all
      exact⟨_,_,h2,by simp only[eL,e,encC,zDV hsm l hd,zBn hsm,zCa,zNa]⟩
     ·cases h
    ·obtain⟨h1,h2⟩:=zAF h;exact⟨_,_,h2,by simp only[eL,e,encC,List.map_nil,zBn h1,zCa,zNa]⟩
    ·obtain⟨h1,h2⟩:=zAF h;cases h1
    ·cases h
   ·split at h
    ·rename_i g' l q;split at h
     ·rename_i hsm;exact⟨_,_,h,by simp only[eL,e,encC,zBV hsm l,zBn hsm,zCa,zNa]⟩
     ·cases h
    ·cases h
 |.unit,cs,K,h=>⟨(),cs,h,rfl⟩
 | .pair a b,cs,K,h=>by
   unfold rdC at h;obtain⟨x,r1,h1,h2⟩:=zJm a cs _ h;obtain⟨y,r2,h4,h5⟩:=zJm b r1 _ h1;exact⟨(x,y),r2,h4,by rw[h2,h5];simp only[encC,zAa]⟩
end
end Go.TM
end
