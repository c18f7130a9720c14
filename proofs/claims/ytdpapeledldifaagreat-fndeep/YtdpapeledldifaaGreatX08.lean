/- Part 9 of the proof of FnDeep; no condition. -/
import Derived.Test.YtdpapeledldifaaGreatX07
open Option renaming some -> U
open Decidable renaming decide -> aa
open Bool renaming true -> ad
open Bool renaming false -> ag
open Option renaming none -> aj
open Sum renaming inl -> an
open Sum renaming inr -> ao
open List renaming length -> au
open Int renaming toNat -> aH
open List renaming drop -> kZ
open List renaming take -> nY
set_option autoImplicit true
set_option relaxedAutoImplicit true
set_option linter.all false
section
namespace Go.TM
open Go.AM
section
variable {R α X:Type}
def ah (t:Bool)(A B:Option R):Option R:=match t with|true=>A|false=>B
def af (p:Bool)(A:Option R):Option R:=match p with|true=>A|false=>aj
def aX (p:Bool)(A:Option R):Option R:=match p with|true=>A|false=>aj
def aq (l:List α)(n:Nat)(k:α->Option R):Option R:=match l[n]? with|some x=>k x|none=>aj
def ai (x:Option α)(k:α->Option R):Option R:=match x with|some a=>k a|none=>aj
noncomputable def cm (a b:Option R):Option R:=@ite _ (a=b) (Classical.propDecidable _) a aj
def F0 {a b:Option R}{r:R}(h:cm a b=U r):a=U r/\b=U r:=by
 unfold cm at h;split at h
 ·rename_i he;exact⟨h,by rw[<-he];exact h⟩
 ·cases h
def Ae {t:Bool}{A B:Option R}{r:R}(h:ah t A B=U r):(t=ad/\A=U r)\/(t=ag/\B=U r):=by
 cases t
 ·exact .inr ⟨rfl,h⟩
 ·exact .inl ⟨rfl,h⟩
def cL {p:Bool}{A:Option R}{r:R}(h:af p A=U r):p=ad/\A=U r:=by cases p;cases h;exact⟨rfl,h⟩
def bl {p:Bool}{A:Option R}{r:R}(h:aX p A=U r):p=ad/\A=U r:=by cases p;cases h;exact⟨rfl,h⟩
def oy {l:List α}{n:Nat}{k:α->Option R}{r:R}(h:aq l n k=U r):∃x,l[n]? = U x/\k x=U r:=by
 unfold aq at h;split at h
 ·exact⟨_,by assumption,h⟩
 ·cases h
def F1 {x:Option α}{k:α->Option R}{r:R}(h:ai x k=U r):∃a,x=U a/\k a=U r:=by
 cases x
 ·cases h
 ·exact⟨_,rfl,h⟩
end
def F2 (g:Nat->Option GT):List (Nat×Nat)->Option GT
 |[]=>U .unit
 | f::fs=>match fs with
   |[]=>g f.1
   | _::_=>match g f.1,F2 g fs with
     |some a,U b=>U (.pair a b)
     |_,_=>aj
def MV:IntKind->GT
 |.u8=>.byte
 |k=>.int k
def gt (T:Nat->TI):Nat->Nat->Option GT
 |0,_=>aj
 | n+1,t=>match(T t).kind with
   |.int k=>U (MV k)
   |.bool=>U .bool
   |.str=>U .str
   | .slice e=>match gt T n e with
     |some a=>U (.sl a)
     |none=>aj
   |.struct fs=>F2 (gt T n) fs
   |_=>aj
def dB (T:Nat->TI):GT->List TK->Option (List TK)
 | .int k,ks=>match ks with
   |.int k'::r=>bif c9 k k' then U r else aj
   |_=>aj
 | .byte,ks=>match ks with
   |.int .u8::r=>U r
   |_=>aj
 | .bool,ks=>match ks with
   |.bool::r=>U r
   |_=>aj
 | .str,ks=>match ks with
   |.str::r=>U r
   |_=>aj
 | .sl e,ks=>match ks with
   |.slice t::r=>bif (T t).size==e.sz then U r else aj
   |_=>aj
 |.unit,ks=>U ks
 | .pair a b,ks=>match dB T a ks with
   |some r=>dB T b r
   |none=>aj
def isNone:Option (List TK)->Bool
 |some []=>ad
 |_=>ag
def nh (T:Nat->TI)(t:Nat)(g:GT):Bool:=isNone (dB T g (flat T 4 t))&&(T t).size==g.sz
def Af {T:Nat->TI}:∀(g:GT) (ks r:List TK) (x:g.Den) (row:List SV),dB T g ks=U r->lO T r row->lO T ks (aM ag g x++row)
 | .int k,ks,r,x,row,h,hr=>by
   unfold dB at h;split at h
   ·rename_i k' r';cases hk:c9 k k' with
    |true=>rw[hk,cond_true]at h;simp only[aK]at h;subst h;simp only[c9,aI]at hk;exact⟨hk.symm,hr⟩
    |false=>rw[hk,cond_false]at h;cases h
   ·cases h
 | .byte,ks,r,x,row,h,hr=>by
   unfold dB at h;split at h
   ·simp only[aK]at h;subst h;exact⟨rfl,hr⟩
   ·cases h
 | .bool,ks,r,x,row,h,hr=>by
   unfold dB at h;split at h
   ·simp only[aK]at h;subst h;exact⟨trivial,hr⟩
   ·cases h
 | .str,ks,r,x,row,h,hr=>by
   unfold dB at h;split at h
   ·simp only[aK]at h;subst h;exact⟨trivial,hr⟩
   ·cases h
 | .sl g,ks,r,x,row,h,hr=>by
   unfold dB at h;split at h
   ·rename_i t r';cases hk:(T t).size==g.sz with
    |true=>rw[hk,cond_true]at h;simp only[aK]at h;subst h;exact⟨(eq_of_beq hk).symm,hr⟩
    |false=>rw[hk,cond_false]at h;cases h
   ·cases h
 |.unit,ks,r,x,row,h,hr=>by simp only[dB,aK]at h;subst h;exact hr
 | .pair a b,ks,r,x,row,h,hr=>by
   unfold dB at h;split at h
   ·rename_i q hq;simp only[aM,b_]
    exact Af a ks q _ _ hq (Af b q r _ _ h hr)
   ·cases h
def Ag {T:Nat->TI}:∀(g:GT) (ks r:List TK) (B:List SV->Prop),dB T g ks=U r->(∀row,jw T r fun q=>B (row++q))->jw T ks B
 | .int k,ks,r,B,h,hr=>by
   unfold dB at h;split at h
   ·rename_i k' r';cases hk:c9 k k' with
    |true=>rw[hk,cond_true]at h;simp only[aK]at h;subst h;exact fun n=>hr [.i k' n]
    |false=>rw[hk,cond_false]at h;cases h
   ·cases h
 | .byte,ks,r,B,h,hr=>by
   unfold dB at h;split at h
   ·simp only[aK]at h;subst h;exact fun n=>hr [.i .u8 n]
   ·cases h
 | .bool,ks,r,B,h,hr=>by
   unfold dB at h;split at h
   ·simp only[aK]at h;subst h;exact fun n=>hr [.b n]
   ·cases h
 | .str,ks,r,B,h,hr=>by
   unfold dB at h;split at h
   ·simp only[aK]at h;subst h;exact fun n=>hr [.s n]
   ·cases h
 | .sl g,ks,r,B,h,hr=>by
   unfold dB at h;split at h
   ·rename_i t r';cases hk:(T t).size==g.sz with
    |true=>rw[hk,cond_true]at h;simp only[aK]at h;subst h;exact fun n=>hr [.sl (T t).size n]
    |false=>rw[hk,cond_false]at h;cases h
   ·cases h
 |.unit,ks,r,B,h,hr=>by simp only[dB,aK]at h;subst h;exact hr []
 | .pair a b,ks,r,B,h,hr=>by
   unfold dB at h;split at h
   ·rename_i q hq;refine Ag a ks q B hq fun row=>?_
    refine Ag b q r _ h fun yF=>?_
    have:=hr (row++yF);simpa only[b_]using this
   ·cases h
def MW {x:Option (List TK)}(h:isNone x=ad):x=U []:=by
 unfold isNone at h;split at h
 ·rfl
 ·cases h
def rW {T:Nat->TI}{t:Nat}{g:GT}(h:nh T t g=ad):dB T g (flat T 4 t)=U []/\(T t).size=g.sz:=by
 simp only[nh,aG]at h;exact⟨MW h.1,eq_of_beq h.2⟩
def MX {T:Nat->TI}{t:Nat}{g:GT}(h:nh T t g=ad)(l:List g.Den):D3 T (flat T 4 t) (l.map (aM ag g)):=by
 intro row hr;obtain⟨x,_,rfl⟩:=List.mem_map.1 hr;have:=Af (T:=T) g _ _ x [] (rW h).1 rfl;simpa only[cN]using this
def MY {T:Nat->TI}{t:Nat}{g:GT}(h:nh T t g=ad){B:List SV->Prop}(hB:∀ row,B row):jw T (flat T 4 t) B :=
 Ag g _ _ B (rW h).1 fun row=>hB _
section
variable {R:Type}
def fD (z d:Bool):(t:GT)->List V->(t.Den->List V->Option R)->Option R
 | .int k,cs,K=>match cs with
   |.i k' n::r=>aX (c9 k k') (K n r)
   |_=>aj
 | .byte,cs,K=>match cs with
   |.i .u8 n::r=>af (aa (0<=n)&&aa (n<=255)) (K (UInt8.ofNat n.toNat) r)
   |_=>aj
 | .bool,cs,K=>match cs with
   |.b x::r=>K x r
   |_=>aj
 | .str,cs,K=>match cs with
   |.s x::r=>K x r
   |_=>aj
 | .sl g,cs,K=>match d with
   | true=>match cs with
     | .own g' d' l::r=>(match hs:g.same g' with
       |true=>aX (d'||g.flat) (K (fC hs l) r)
       |false=>aj)
     |.emp g'::r=>aX (g.same g') (K [] r)
     |.nil::r=>aX z (K [] r)
     |_=>aj
   | false=>match cs with
     | .sl g' l::r=>(match hs:g.same g' with
       |true=>K (fC hs l) r
       |false=>aj)
     |_=>aj
 |.unit,cs,K=>K () cs
 |.pair a b,cs,K=>fD z d a cs fun x r=>fD z d b r fun y q=>K (x,y) q
def jF {a b:GT}(h:a.same b=ad)(l:List b.Den)(d:Bool):(fC h l).map (aM d a)=l.map (aM d b):=by
 have he:=GT.same_eq h;subst he;rfl
def gJ {a b:GT}(h:a.same b=ad):a.sz=b.sz:=by rw[GT.same_eq h]
def MZ {a b:GT}(h:a.same b=ad):a.flat=b.flat:=by rw[GT.same_eq h]
def p5 {a b:GT}(h:a.same b=ad)(l:List b.Den){d d':Bool}(hd:d=d'\/a.flat=ad):(fC h l).map (aM d a)=l.map (aM d' b):=by
 rw[jF];rcases hd with rfl|hf
 ·rfl
 ·exact MO d d' l (by rw[<-MZ h];exact hf)
def Ah {T:Nat->TI}{z d:Bool}{r:R}:∀(g:GT) (ks ks':List TK) (cs:List V) (K:g.Den->List V->Option R),dB T g ks=U ks'->fD z d g cs K=U r ->
  ∃x rest,K x rest=U r/\i9 T ks (eL cs)=aM d g x++i9 T ks' (eL rest)/\(z=ag->eL cs=aM d g x++eL rest)
 | .int k,ks,ks',cs,K,hs,h=>by
   unfold fD at h;unfold dB at hs;split at hs
   ·rename_i k1 r1;split at h
    ·rename_i k2 n q;obtain⟨h1,h2⟩:=bl h;simp only[c9,aI]at h1;subst h1;cases hk:c9 k k1 with
     | true=>
       rw[hk,cond_true]at hs;simp only[aK]at hs;subst hs;exact⟨n,q,h2,rfl,fun _=>rfl⟩
     |false=>rw[hk,cond_false]at hs;cases hs
    ·cases h
   ·cases hs
 | .byte,ks,ks',cs,K,hs,h=>by
   unfold fD at h;unfold dB at hs;split at hs
   ·rename_i r1;simp only[aK]at hs;subst hs;split at h
    ·rename_i n q;obtain⟨h1,h2⟩:=cL h;simp only[aG,aI]at h1
     have hn:((UInt8.ofNat n.toNat).toNat:Int)=n:=by
      rw[UInt8.toNat_ofNat'];omega
     refine⟨_,q,h2,?_,fun _=>?_⟩
     ·simp only[eL,e,aM,hn,i9];rfl
     ·simp only[eL,e,aM,hn];rfl
    ·cases h
   ·cases hs
 | .bool,ks,ks',cs,K,hs,h=>by
   unfold fD at h;unfold dB at hs;split at hs
   ·simp only[aK]at hs;subst hs;split at h
    ·exact⟨_,_,h,rfl,fun _=>rfl⟩
    ·cases h
   ·cases hs
 | .str,ks,ks',cs,K,hs,h=>by
   unfold fD at h;unfold dB at hs;split at hs
   ·simp only[aK]at hs;subst hs;split at h
    ·exact⟨_,_,h,rfl,fun _=>rfl⟩
    ·cases h
   ·cases hs
 | .sl g,ks,ks',cs,K,hs,h=>by
   unfold fD at h;unfold dB at hs;split at hs
   ·rename_i t r1;cases hk:(T t).size==g.sz with
    |false=>rw[hk,cond_false]at hs;cases hs
    | true=>
      have hsz:=eq_of_beq hk;rw[hk,cond_true]at hs;simp only[aK]at hs;subst hs;split at h
      ·split at h
       ·rename_i g' d' l q;split at h
        ·rename_i hsm;obtain⟨h1,h2⟩:=bl h
         have hd:ad=d'\/g.flat=ad:=by
          cases d'<;>simp_all
         refine⟨_,_,h2,?_,fun _=>?_⟩
         ·simp only[eL,e,aM,i9,pG,p5 hsm l hd,gJ hsm,cD,dz]
         ·simp only[eL,e,aM,p5 hsm l hd,gJ hsm,cD,dz]
        ·cases h
       ·obtain⟨h1,h2⟩:=bl h;refine⟨_,_,h2,?_,fun hz=>?_⟩
        ·simp only[eL,e,aM,i9,pG,List.map_nil,gJ h1,cD,dz]
        ·simp only[eL,e,aM,List.map_nil,gJ h1,cD,dz]
       ·obtain⟨h1,h2⟩:=bl h;refine⟨_,_,h2,?_,fun hz=>?_⟩
        ·simp only[eL,e,aM,i9,pG,List.map_nil,hsz,cD,dz]
        ·rw[hz]at h1;cases h1
       ·cases h
      ·split at h
       ·rename_i g' l q;split at h
        ·rename_i hsm;refine⟨_,_,h,?_,fun _=>?_⟩
         ·simp only[eL,e,aM,i9,pG,jF hsm l,gJ hsm,cD,dz]
         ·simp only[eL,e,aM,jF hsm l,gJ hsm,cD,dz]
        ·cases h
       ·cases h
   ·cases hs
 | .unit,ks,ks',cs,K,hs,h=>by
   simp only[dB,aK]at hs;subst hs;exact⟨(),cs,h,rfl,fun _=>rfl⟩
 | .pair a b,ks,ks',cs,K,hs,h=>by
   unfold dB at hs;split at hs
   ·rename_i q hq;unfold fD at h;obtain⟨x,r1,h1,h2,h3⟩:=Ah a ks q cs _ hq h;obtain⟨y,r2,h4,h5,h6⟩:=Ah b q ks' r1 _ hs h1;refine⟨(x,y),r2,h4,?_,fun hz=>?_⟩
    ·rw[h2,h5];simp only[aM,b_]
    ·rw[h3 hz,h6 hz];simp only[aM,b_]
   ·cases hs
def rX {d:Bool}{r:R}:∀(g:GT) (cs:List V) (K:g.Den->List V->Option R),fD ag d g cs K=U r ->
  ∃x rest,K x rest=U r/\eL cs=aM d g x++eL rest
 | .int k,cs,K,h=>by
   unfold fD at h;split at h
   ·obtain⟨h1,h2⟩:=bl h;simp only[c9,aI]at h1;subst h1;exact⟨_,_,h2,rfl⟩
   ·cases h
 | .byte,cs,K,h=>by
   unfold fD at h;split at h
   ·rename_i n q;obtain⟨h1,h2⟩:=cL h;simp only[aG,aI]at h1
    have hn:((UInt8.ofNat n.toNat).toNat:Int)=n:=by
     rw[UInt8.toNat_ofNat'];omega
    exact⟨_,q,h2,by simp only[eL,e,aM,hn];rfl⟩
   ·cases h
 | .bool,cs,K,h=>by
   unfold fD at h;split at h
   ·exact⟨_,_,h,rfl⟩
   ·cases h
 | .str,cs,K,h=>by
   unfold fD at h;split at h
   ·exact⟨_,_,h,rfl⟩
   ·cases h
 | .sl g,cs,K,h=>by
   unfold fD at h;split at h
   ·split at h
    ·rename_i g' d' l q;split at h
     ·rename_i hsm;obtain⟨h1,h2⟩:=bl h;have hd:ad=d'\/g.flat=ad:=by cases d'<;>simp_all
      exact⟨_,_,h2,by simp only[eL,e,aM,p5 hsm l hd,gJ hsm,cD,dz]⟩
     ·cases h
    ·obtain⟨h1,h2⟩:=bl h;exact⟨_,_,h2,by simp only[eL,e,aM,List.map_nil,gJ h1,cD,dz]⟩
    ·obtain⟨h1,h2⟩:=bl h;cases h1
    ·cases h
   ·split at h
    ·rename_i g' l q;split at h
     ·rename_i hsm;exact⟨_,_,h,by simp only[eL,e,aM,jF hsm l,gJ hsm,cD,dz]⟩
     ·cases h
    ·cases h
 |.unit,cs,K,h=>⟨(),cs,h,rfl⟩
 | .pair a b,cs,K,h=>by
   unfold fD at h;obtain⟨x,r1,h1,h2⟩:=rX a cs _ h;obtain⟨y,r2,h4,h5⟩:=rX b r1 _ h1;exact⟨(x,y),r2,h4,by rw[h2,h5];simp only[aM,b_]⟩
end
end Go.TM
end
