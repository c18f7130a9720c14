/- Part 9 of the proof of FnTidyAll; no condition. -/
import Derived.Test.YtmjlecabpbiigaaGreatX07
open Option renaming some -> U
open Decidable renaming decide -> aa
open Bool renaming true -> ae
open Bool renaming false -> ag
open Option renaming none -> aj
open Sum renaming inr -> an
open Sum renaming inl -> ao
open List renaming length -> au
open Int renaming toNat -> aw
open List renaming drop -> cU
open List renaming take -> de
set_option autoImplicit true
set_option relaxedAutoImplicit true
set_option linter.all false
section
namespace Go.TM
open Go.AM
section
variable {R α X:Type}
def ai (t:Bool)(A B:Option R):Option R:=match t with|true=>A|false=>B
def af (p:Bool)(A:Option R):Option R:=match p with|true=>A|false=>aj
def aX (p:Bool)(A:Option R):Option R:=match p with|true=>A|false=>aj
def aq (l:List α)(n:Nat)(k:α->Option R):Option R:=match l[n]? with|some x=>k x|none=>aj
def ah (x:Option α)(k:α->Option R):Option R:=match x with|some a=>k a|none=>aj
noncomputable def ca (a b:Option R):Option R:=@ite _ (a=b) (Classical.propDecidable _) a aj
def GJ {a b:Option R}{r:R}(h:ca a b=U r):a=U r/\b=U r:=by
 unfold ca at h;split at h
 ·rename_i he;exact⟨h,by rw[<-he];exact h⟩
 ·cases h
def AO {t:Bool}{A B:Option R}{r:R}(h:ai t A B=U r):(t=ae/\A=U r)\/(t=ag/\B=U r):=by
 cases t
 ·exact .inr ⟨rfl,h⟩
 ·exact .inl ⟨rfl,h⟩
def cR {p:Bool}{A:Option R}{r:R}(h:af p A=U r):p=ae/\A=U r:=by cases p;cases h;exact⟨rfl,h⟩
def bj {p:Bool}{A:Option R}{r:R}(h:aX p A=U r):p=ae/\A=U r:=by cases p;cases h;exact⟨rfl,h⟩
def oN {l:List α}{n:Nat}{k:α->Option R}{r:R}(h:aq l n k=U r):∃x,l[n]? = U x/\k x=U r:=by
 unfold aq at h;split at h
 ·exact⟨_,by assumption,h⟩
 ·cases h
def GK {x:Option α}{k:α->Option R}{r:R}(h:ah x k=U r):∃a,x=U a/\k a=U r:=by
 cases x
 ·cases h
 ·exact⟨_,rfl,h⟩
end
def GL (g:Nat->Option GT):List (Nat×Nat)->Option GT
 |[]=>U .unit
 | f::fs=>match fs with
   |[]=>g f.1
   | _::_=>match g f.1,GL g fs with
     |some a,U b=>U (.pair a b)
     |_,_=>aj
def NP:IntKind->GT
 |.u8=>.byte
 |k=>.int k
def gt (T:Nat->TI):Nat->Nat->Option GT
 |0,_=>aj
 | n+1,t=>match(T t).kind with
   |.int k=>U (NP k)
   |.bool=>U .bool
   |.str=>U .str
   | .slice e=>match gt T n e with
     |some a=>U (.sl a)
     |none=>aj
   |.struct fs=>GL (gt T n) fs
   |_=>aj
def dL (T:Nat->TI):GT->List TK->Option (List TK)
 | .int k,ks=>match ks with
   |.int k'::r=>bif dj k k' then U r else aj
   |_=>aj
 | .byte,ks=>match ks with
   |.int .u8::r=>U r
   |_=>aj
 | .bool,ks=>match ks with
   |.bool::r=>U r
   |_=>aj
 | .str,ks=>match ks with
   |.str::r=>U r
   |_=>aj
 | .sl e,ks=>match ks with
   |.slice t::r=>bif (T t).size==e.sz then U r else aj
   |_=>aj
 |.unit,ks=>U ks
 | .pair a b,ks=>match dL T a ks with
   |some r=>dL T b r
   |none=>aj
def isNone:Option (List TK)->Bool
 |some []=>ae
 |_=>ag
def nv (T:Nat->TI)(t:Nat)(g:GT):Bool:=isNone (dL T g (flat T 4 t))&&(T t).size==g.sz
def AP {T:Nat->TI}:∀(g:GT) (ks r:List TK) (x:g.Den) (row:List SV),dL T g ks=U r->l_ T r row->l_ T ks (aO ag g x++row)
 | .int k,ks,r,x,row,h,hr=>by
   unfold dL at h;split at h
   ·rename_i k' r';cases hk:dj k k' with
    |true=>rw[hk,cond_true]at h;simp only[aF]at h;subst h;simp only[dj,aL]at hk;exact⟨hk.symm,hr⟩
    |false=>rw[hk,cond_false]at h;cases h
   ·cases h
 | .byte,ks,r,x,row,h,hr=>by
   unfold dL at h;split at h
   ·simp only[aF]at h;subst h;exact⟨rfl,hr⟩
   ·cases h
 | .bool,ks,r,x,row,h,hr=>by
   unfold dL at h;split at h
   ·simp only[aF]at h;subst h;exact⟨trivial,hr⟩
   ·cases h
 | .str,ks,r,x,row,h,hr=>by
   unfold dL at h;split at h
   ·simp only[aF]at h;subst h;exact⟨trivial,hr⟩
   ·cases h
 | .sl g,ks,r,x,row,h,hr=>by
   unfold dL at h;split at h
   ·rename_i t r';cases hk:(T t).size==g.sz with
    |true=>rw[hk,cond_true]at h;simp only[aF]at h;subst h;exact⟨(eq_of_beq hk).symm,hr⟩
    |false=>rw[hk,cond_false]at h;cases h
   ·cases h
 |.unit,ks,r,x,row,h,hr=>by simp only[dL,aF]at h;subst h;exact hr
 | .pair a b,ks,r,x,row,h,hr=>by
   unfold dL at h;split at h
   ·rename_i q hq;simp only[aO,bD]
    exact AP a ks q _ _ hq (AP b q r _ _ h hr)
   ·cases h
def AR {T:Nat->TI}:∀(g:GT) (ks r:List TK) (B:List SV->Prop),dL T g ks=U r->(∀row,jN T r fun q=>B (row++q))->jN T ks B
 | .int k,ks,r,B,h,hr=>by
   unfold dL at h;split at h
   ·rename_i k' r';cases hk:dj k k' with
    |true=>rw[hk,cond_true]at h;simp only[aF]at h;subst h;exact fun n=>hr [.i k' n]
    |false=>rw[hk,cond_false]at h;cases h
   ·cases h
 | .byte,ks,r,B,h,hr=>by
   unfold dL at h;split at h
   ·simp only[aF]at h;subst h;exact fun n=>hr [.i .u8 n]
   ·cases h
 | .bool,ks,r,B,h,hr=>by
   unfold dL at h;split at h
   ·simp only[aF]at h;subst h;exact fun n=>hr [.b n]
   ·cases h
 | .str,ks,r,B,h,hr=>by
   unfold dL at h;split at h
   ·simp only[aF]at h;subst h;exact fun n=>hr [.s n]
   ·cases h
 | .sl g,ks,r,B,h,hr=>by
   unfold dL at h;split at h
   ·rename_i t r';cases hk:(T t).size==g.sz with
    |true=>rw[hk,cond_true]at h;simp only[aF]at h;subst h;exact fun n=>hr [.sl (T t).size n]
    |false=>rw[hk,cond_false]at h;cases h
   ·cases h
 |.unit,ks,r,B,h,hr=>by simp only[dL,aF]at h;subst h;exact hr []
 | .pair a b,ks,r,B,h,hr=>by
   unfold dL at h;split at h
   ·rename_i q hq;refine AR a ks q B hq fun row=>?_
    refine AR b q r _ h fun zg=>?_
    have:=hr (row++zg);simpa only[bD]using this
   ·cases h
def NQ {x:Option (List TK)}(h:isNone x=ae):x=U []:=by
 unfold isNone at h;split at h
 ·rfl
 ·cases h
def so {T:Nat->TI}{t:Nat}{g:GT}(h:nv T t g=ae):dL T g (flat T 4 t)=U []/\(T t).size=g.sz:=by
 simp only[nv,aK]at h;exact⟨NQ h.1,eq_of_beq h.2⟩
def NR {T:Nat->TI}{t:Nat}{g:GT}(h:nv T t g=ae)(l:List g.Den):EA T (flat T 4 t) (l.map (aO ag g)):=by
 intro row hr;obtain⟨x,_,rfl⟩:=List.mem_map.1 hr;have:=AP (T:=T) g _ _ x [] (so h).1 rfl;simpa only[cB]using this
def NS {T:Nat->TI}{t:Nat}{g:GT}(h:nv T t g=ae){B:List SV->Prop}(hB:∀ row,B row):jN T (flat T 4 t) B :=
 AR g _ _ B (so h).1 fun row=>hB _
section
variable {R:Type}
def fQ (z d:Bool):(t:GT)->List V->(t.Den->List V->Option R)->Option R
 | .int k,cs,K=>match cs with
   |.i k' n::r=>aX (dj k k') (K n r)
   |_=>aj
 | .byte,cs,K=>match cs with
   |.i .u8 n::r=>af (aa (0<=n)&&aa (n<=255)) (K (UInt8.ofNat n.toNat) r)
   |_=>aj
 | .bool,cs,K=>match cs with
   |.b x::r=>K x r
   |_=>aj
 | .str,cs,K=>match cs with
   |.s x::r=>K x r
   |_=>aj
 | .sl g,cs,K=>match d with
   | true=>match cs with
     | .own g' d' l::r=>(match hs:g.same g' with
       |true=>aX (d'||g.flat) (K (fP hs l) r)
       |false=>aj)
     |.emp g'::r=>aX (g.same g') (K [] r)
     |.nil::r=>aX z (K [] r)
     |_=>aj
   | false=>match cs with
     | .sl g' l::r=>(match hs:g.same g' with
       |true=>K (fP hs l) r
       |false=>aj)
     |_=>aj
 |.unit,cs,K=>K () cs
 |.pair a b,cs,K=>fQ z d a cs fun x r=>fQ z d b r fun y q=>K (x,y) q
def jU {a b:GT}(h:a.same b=ae)(l:List b.Den)(d:Bool):(fP h l).map (aO d a)=l.map (aO d b):=by
 have he:=GT.same_eq h;subst he;rfl
def g_ {a b:GT}(h:a.same b=ae):a.sz=b.sz:=by rw[GT.same_eq h]
def NT {a b:GT}(h:a.same b=ae):a.flat=b.flat:=by rw[GT.same_eq h]
def qh {a b:GT}(h:a.same b=ae)(l:List b.Den){d d':Bool}(hd:d=d'\/a.flat=ae):(fP h l).map (aO d a)=l.map (aO d' b):=by
 rw[jU];rcases hd with rfl|hf
 ·rfl
 ·exact NI d d' l (by rw[<-NT h];exact hf)
def AS {T:Nat->TI}{z d:Bool}{r:R}:∀(g:GT) (ks ks':List TK) (cs:List V) (K:g.Den->List V->Option R),dL T g ks=U ks'->fQ z d g cs K=U r ->
  ∃x rest,K x rest=U r/\jo T ks (eL cs)=aO d g x++jo T ks' (eL rest)/\(z=ag->eL cs=aO d g x++eL rest)
 | .int k,ks,ks',cs,K,hs,h=>by
   unfold fQ at h;unfold dL at hs;split at hs
   ·rename_i k1 r1;split at h
    ·rename_i k2 n q;obtain⟨h1,h2⟩:=bj h;simp only[dj,aL]at h1;subst h1;cases hk:dj k k1 with
     | true=>
       rw[hk,cond_true]at hs;simp only[aF]at hs;subst hs;exact⟨n,q,h2,rfl,fun _=>rfl⟩
     |false=>rw[hk,cond_false]at hs;cases hs
    ·cases h
   ·cases hs
 | .byte,ks,ks',cs,K,hs,h=>by
   unfold fQ at h;unfold dL at hs;split at hs
   ·rename_i r1;simp only[aF]at hs;subst hs;split at h
    ·rename_i n q;obtain⟨h1,h2⟩:=cR h;simp only[aK,aL]at h1
     have hn:((UInt8.ofNat n.toNat).toNat:Int)=n:=by
      rw[UInt8.toNat_ofNat'];omega
     refine⟨_,q,h2,?_,fun _=>?_⟩
     ·simp only[eL,e,aO,hn,jo];rfl
     ·simp only[eL,e,aO,hn];rfl
    ·cases h
   ·cases hs
 | .bool,ks,ks',cs,K,hs,h=>by
   unfold fQ at h;unfold dL at hs;split at hs
   ·simp only[aF]at hs;subst hs;split at h
    ·exact⟨_,_,h,rfl,fun _=>rfl⟩
    ·cases h
   ·cases hs
 | .str,ks,ks',cs,K,hs,h=>by
   unfold fQ at h;unfold dL at hs;split at hs
   ·simp only[aF]at hs;subst hs;split at h
    ·exact⟨_,_,h,rfl,fun _=>rfl⟩
    ·cases h
   ·cases hs
 | .sl g,ks,ks',cs,K,hs,h=>by
   unfold fQ at h;unfold dL at hs;split at hs
   ·rename_i t r1;cases hk:(T t).size==g.sz with
    |false=>rw[hk,cond_false]at hs;cases hs
    | true=>
      have hsz:=eq_of_beq hk;rw[hk,cond_true]at hs;simp only[aF]at hs;subst hs;split at h
      ·split at h
       ·rename_i g' d' l q;split at h
        ·rename_i hsm;obtain⟨h1,h2⟩:=bj h
         have hd:ae=d'\/g.flat=ae:=by
          cases d'<;>simp_all
         refine⟨_,_,h2,?_,fun _=>?_⟩
         ·simp only[eL,e,aO,jo,pT,qh hsm l hd,g_ hsm,cF,dy]
         ·simp only[eL,e,aO,qh hsm l hd,g_ hsm,cF,dy]
        ·cases h
       ·obtain⟨h1,h2⟩:=bj h;refine⟨_,_,h2,?_,fun hz=>?_⟩
        ·simp only[eL,e,aO,jo,pT,List.map_nil,g_ h1,cF,dy]
        ·simp only[eL,e,aO,List.map_nil,g_ h1,cF,dy]
       ·obtain⟨h1,h2⟩:=bj h;refine⟨_,_,h2,?_,fun hz=>?_⟩
        ·simp only[eL,e,aO,jo,pT,List.map_nil,hsz,cF,dy]
        ·rw[hz]at h1;cases h1
       ·cases h
      ·split at h
       ·rename_i g' l q;split at h
        ·rename_i hsm;refine⟨_,_,h,?_,fun _=>?_⟩
         ·simp only[eL,e,aO,jo,pT,jU hsm l,g_ hsm,cF,dy]
         ·simp only[eL,e,aO,jU hsm l,g_ hsm,cF,dy]
        ·cases h
       ·cases h
   ·cases hs
 | .unit,ks,ks',cs,K,hs,h=>by
   simp only[dL,aF]at hs;subst hs;exact⟨(),cs,h,rfl,fun _=>rfl⟩
 | .pair a b,ks,ks',cs,K,hs,h=>by
   unfold dL at hs;split at hs
   ·rename_i q hq;unfold fQ at h;obtain⟨x,r1,h1,h2,h3⟩:=AS a ks q cs _ hq h;obtain⟨y,r2,h4,h5,h6⟩:=AS b q ks' r1 _ hs h1;refine⟨(x,y),r2,h4,?_,fun hz=>?_⟩
    ·rw[h2,h5];simp only[aO,bD]
    ·rw[h3 hz,h6 hz];simp only[aO,bD]
   ·cases hs
def sq {d:Bool}{r:R}:∀(g:GT) (cs:List V) (K:g.Den->List V->Option R),fQ ag d g cs K=U r ->
  ∃x rest,K x rest=U r/\eL cs=aO d g x++eL rest
 | .int k,cs,K,h=>by
   unfold fQ at h;split at h
   ·obtain⟨h1,h2⟩:=bj h;simp only[dj,aL]at h1;subst h1;exact⟨_,_,h2,rfl⟩
   ·cases h
 | .byte,cs,K,h=>by
   unfold fQ at h;split at h
   ·rename_i n q;obtain⟨h1,h2⟩:=cR h;simp only[aK,aL]at h1
    have hn:((UInt8.ofNat n.toNat).toNat:Int)=n:=by
     rw[UInt8.toNat_ofNat'];omega
    exact⟨_,q,h2,by simp only[eL,e,aO,hn];rfl⟩
   ·cases h
 | .bool,cs,K,h=>by
   unfold fQ at h;split at h
   ·exact⟨_,_,h,rfl⟩
   ·cases h
 | .str,cs,K,h=>by
   unfold fQ at h;split at h
   ·exact⟨_,_,h,rfl⟩
   ·cases h
 | .sl g,cs,K,h=>by
   unfold fQ at h;split at h
   ·split at h
    ·rename_i g' d' l q;split at h
     ·rename_i hsm;obtain⟨h1,h2⟩:=bj h;have hd:ae=d'\/g.flat=ae:=by cases d'<;>simp_all
      exact⟨_,_,h2,by simp only[eL,e,aO,qh hsm l hd,g_ hsm,cF,dy]⟩
     ·cases h
    ·obtain⟨h1,h2⟩:=bj h;exact⟨_,_,h2,by simp only[eL,e,aO,List.map_nil,g_ h1,cF,dy]⟩
    ·obtain⟨h1,h2⟩:=bj h;cases h1
    ·cases h
   ·split at h
    ·rename_i g' l q;split at h
     ·rename_i hsm;exact⟨_,_,h,by simp only[eL,e,aO,jU hsm l,g_ hsm,cF,dy]⟩
     ·cases h
    ·cases h
 |.unit,cs,K,h=>⟨(),cs,h,rfl⟩
 | .pair a b,cs,K,h=>by
   unfold fQ at h;obtain⟨x,r1,h1,h2⟩:=sq a cs _ h;obtain⟨y,r2,h4,h5⟩:=sq b r1 _ h1;exact⟨(x,y),r2,h4,by rw[h2,h5];simp only[aO,bD]⟩
end
end Go.TM
end
