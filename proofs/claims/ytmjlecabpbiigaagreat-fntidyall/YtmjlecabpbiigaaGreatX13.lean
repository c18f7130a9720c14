/- Part 14 of the proof of FnTidyAll; no condition. -/
import Derived.Test.YtmjlecabpbiigaaGreatX12
open Option renaming some -> U
open Decidable renaming decide -> aa
open Bool renaming true -> ae
open Bool renaming false -> ag
open Option renaming none -> aj
open Sum renaming inr -> an
open Sum renaming inl -> ao
open List renaming length -> au
open Int renaming toNat -> aw
open List renaming drop -> cU
open List renaming take -> de
set_option autoImplicit true
set_option relaxedAutoImplicit true
set_option linter.all false
section
namespace Go.TM
open Go.AM
section
variable {R:Type}{T:Nat->TI}{C:nw R}{C':zAz}{o:Oper}{s:TS}{K:TS->Option R}{K':St->Prop}{r:R}
def Ok {v:V}{n:Nat}(h:A1 s v=U n):ov (eS s) (e v)=U n:=by
 unfold A1 at h;split at h
 ·exact h
 ·exact h
 ·rename_i g l;simp only[e,ov,cG];exact h
 ·rename_i g d l;simp only[e,ov,cG];exact h
 ·rename_i a;simp only[e,ov]
  split at h
  ·rename_i m g d l hg;rw[jw hg];simp only[cG];exact h
  ·rename_i m cs hg;rw[jV hg];exact h
  ·rename_i m g d l j cs hg;rw[i7 hg];simp only[List.length_set,sh];exact h
  ·rename_i m g l k hg;rw[vO hg];simp only[sh];exact h
  ·cases h
 ·cases h
def Be {x:Operand}{k0:Nat}{Kn:TS->Option R}{K:(g:GT)->Bool->List g.Den->TS->Option R}(h:takeT s k0 x Kn K=U r) :
  (∃s',takeRows (eS s) k0 x=U (k0,[],eS s')/\Kn s'=U r) \/
  ∃(g:GT) (d:Bool) (l:List g.Den) (s':TS),takeRows (eS s) k0 x=U (g.sz,l.map (aO d g),eS s')/\K g d l s'=U r:=by
 unfold takeT at h;unfold takeRows;rw[bV];split at h
 ·rename_i hv;rw[hv];exact .inl ⟨_,rfl,h⟩
 ·rename_i g hv;rw[hv];obtain⟨h1,h2⟩:=bj h;exact .inl ⟨_,by simp only[e,jT,eq_of_beq h1],h2⟩
 ·rename_i g d l hv;rw[hv];exact .inr ⟨g,d,l,_,by simp only[e,jT],h⟩
 ·rename_i a hv;rw[hv];simp only[e]
  split at h
  ·rename_i m g d l hg;rw[jw hg];exact .inr ⟨g,d,l,_,by simp only[qg,cV,if_false],h⟩
  ·cases h
 ·cases h
def Ol {y:Operand}{Kn:TS->Option R}{K:(g:GT)->Bool->List g.Den->TS->Option R}(h:A2 s y Kn K=U r) :
  (∃s' k,moreRows (eS s) y=U (k,[],eS s')/\Kn s'=U r) \/
  ∃(g:GT) (d:Bool) (l:List g.Den) (s':TS),moreRows (eS s) y=U (g.sz,l.map (aO d g),eS s')/\K g d l s'=U r:=by
 unfold A2 at h;unfold moreRows;rw[bV];split at h
 ·rename_i hv;rw[hv];exact .inl ⟨_,_,rfl,h⟩
 ·rename_i g hv;rw[hv];exact .inl ⟨_,g.sz,by simp only[e,jT],h⟩
 ·rename_i g d l hv;rw[hv];exact .inr ⟨g,d,l,_,by simp only[e,jT],h⟩
 ·rename_i g l hv;rw[hv];exact .inr ⟨g,ag,l,_,by simp only[e],h⟩
 ·cases h
def Bf {a b:Nat}(h:(aa (a<=vH)&&aa (b<=vI))=ae):a<=9223372036854775807/\b<=140737488355328:=by
 simp only[aK,aL]at h;exact h
def Om {t:Nat}{g:GT}{x y:Operand}{d:Option Tmp}(hg:g.sz=(T t).size)(hK:∀ s,K s=U r->K' (eS s))(h:A3 T t g x y d s K=U r) :
  ∃k' rows' st1 k rows st2,moreRows (eS s) y=U (k',rows',st1)/\takeRows st1 (T t).size x=U (k,rows,st2)/\k=(T t).size/\(k'=(T t).size\/rows'=[]) /\
   (rows.length+rows'.length<=9223372036854775807/\(rows.length+rows'.length)*(T t).bytes<=140737488355328)/\K' (aZ st2 d (.own (T t).size (rows++rows'))):=by
 unfold A3 at h;rcases Ol h with⟨s1,k',hm,h⟩|⟨g',d',l',s1,hm,h⟩
 ·rcases Be h with⟨s2,ht,h⟩|⟨g1,d1,l1,s2,ht,h⟩
  ·refine⟨_,_,_,_,_,_,hm,ht,rfl,.inr rfl,⟨by simp,by simp⟩,Kq hK ?_ h⟩;have:=bP (s:=s2) d (.own g ae []);simp only[e,hg]at this;exact this
  ·obtain⟨hs,h1⟩:=sy h;obtain⟨h2,h3⟩:=cR h1;have hb:=Bf h2
   have hl:(fP hs l1).length=l1.length:=by
    have:=congrArg au (jU hs l1 ae);simpa using this
   rw[hl]at hb;refine⟨_,_,_,_,_,_,hm,ht,by rw[<-g_ hs,hg],.inr rfl,⟨by simpa using hb.1,by simpa using hb.2⟩,Kq hK ?_ h3⟩;have:=bP (s:=s2) d (.own g d1 (fP hs l1));simp only[e,hg,jU]at this;rw[cB];exact this
 ·obtain⟨hs,h1⟩:=sy h
  have hl':(fP hs l').length=l'.length:=by
   have:=congrArg au (jU hs l' ae);simpa using this
  rcases Be h1 with⟨s2,ht,h2⟩|⟨g1,d1,l1,s2,ht,h2⟩
  ·obtain⟨h3,h4⟩:=cR h2;have hb:=Bf h3;rw[hl']at hb;refine⟨_,_,_,_,_,_,hm,ht,rfl,.inl (by rw[<-g_ hs,hg]),⟨by simpa using hb.1,by simpa using hb.2⟩,Kq hK ?_ h4⟩;have:=bP (s:=s2) d (.own g d' (fP hs l'));simp only[e,hg,jU]at this;exact this
  ·obtain⟨hs1,h3⟩:=sy h2;obtain⟨h4,h5⟩:=bj h3;obtain⟨h6,h7⟩:=cR h5;have hb:=Bf h6
   have hl1:(fP hs1 l1).length=l1.length:=by
    have:=congrArg au (jU hs1 l1 ae);simpa using this
   rw[hl',hl1]at hb;refine⟨_,_,_,_,_,_,hm,ht,by rw[<-g_ hs1,hg],.inl (by rw[<-g_ hs,hg]),⟨by simpa using hb.1,by simpa using hb.2⟩,Kq hK ?_ h7⟩;have:=bP (s:=s2) d (.own g d1 (fP hs1 l1++fP hs l'))
   have hd:d1=d'\/g.flat=ae:=by
    simp only[Bool.or_eq_true,beq_iff_eq]at h4;exact h4
   simp only[e,hg,List.map_append,jU,qh hs l' hd]at this;exact this
def On {t:TypeId}{x:Operand}{lo hi mx:Option Operand}(ho:o.op = .slice t x lo hi mx)(hK:∀ s,K s=U r->K' (eS s))(h:bZ T C o s K=U r):bO T C' o (eS s) K':=by
 simp only[bZ,ho]at h;simp only[bO,ho]
 unfold GQ at h;unfold rN;rw[bV];split at h
 ·rename_i hk;rw[hk];split at h
  ·rename_i l hv;rw[hv];simp only[e]
   unfold kb;rw[hk,bV,hv];simp only[e]
   rw[mq,mq];split at h
   ·rename_i a b ha hb;rw[ha,hb];obtain⟨h1,h2⟩:=cR h;simp only[aK,aL]at h1;exact⟨h1.1.1,h1.1.2,h1.2,Kq hK (bP _ (.s _)) h2⟩
   ·cases h
  ·cases h
 ·rename_i t' hk;rw[hk];split at h
  ·rename_i g l hv;rw[hv];simp only[e]
   obtain⟨h1,h2⟩:=bj h;simp only[aK]at h1;refine bG (by simp only[h1.1,h1.2,ba]) ?_;rw[cG]
   have hset:∀a b:Nat,aZ (eS s) o.dst (SV.sl g.sz (((l.map (aO ag g)).take b).drop a))=eS (bB s o.dst (.sl g ((l.take b).drop a))):=by
    intro a b;have:=bP (s:=s) o.dst (.sl g ((l.take b).drop a));simp only[e,List.map_take,List.map_drop]at this;exact this
   split at h2
   ·rw[mq,mq];split at h2
    ·rename_i a b ha hb;rw[ha,hb];obtain⟨h3,h4⟩:=cR h2;simp only[aK,aL]at h3;exact⟨⟨h3.1.1,h3.1.2,h3.2⟩,Kq hK (hset _ _) h4⟩
    ·cases h2
   ·rename_i m;simp only
    rw[mq,mq,mq];split at h2
    ·rename_i a b' b c ha hb2 hc;rw[ha,hb2,hc];obtain⟨h3,h4⟩:=cR h2;simp only[aK,aL,Bool.not_eq_true',bS]at h3;exact⟨⟨h3.1.1.1.1,h3.1.1.1.2,h3.1.1.2,h3.1.2,h3.2⟩,Kq hK (hset _ _) h4⟩
    ·cases h2
  ·rename_i hv;rw[hv];simp only[e]
   unfold kb;rw[hk,bV,hv];simp only[e]
   split at h
   ·obtain⟨h1,h2⟩:=bj h;exact⟨h1,Kq hK (bP _ .nil) h2⟩
   ·cases h
  ·cases h
  ·rename_i n1 n2 n3;split at h
   ·rcases Be h with⟨s',ht,h⟩|⟨g,dd,l,s',ht,h⟩
    ·cases h
    ·obtain⟨h1,h2⟩:=bj h;simp only[aK]at h1
     have hnsl:∀k rows,e (bp s x) ≠ .sl k rows:=by
      intro k rows hq;cases hv:bp s x<;>rw[hv]at hq<;>simp only[e]at hq<;>first|exact n1 _ _ hv|cases hq
     have hnil:e (bp s x) ≠ .nil:=by
      intro hq;cases hv:bp s x<;>rw[hv]at hq<;>simp only[e]at hq<;>first|exact n2 hv|cases hq
     have hmain:(match(aj:Option Operand),takeRows (eS s) (T t').size x with
       | none,U (k,rows,st')=>(T t').known=ae/\k=(T t').size/\match fI (eS s).env 0 lo,fI (eS s).env rows.length hi with
         |some a,U b=>0<=a/\a<=b/\b<=rows.length/\K' (aZ st' o.dst (.own k ((rows.take b.toNat).drop a.toNat)))
         |_,_=>False
       |_,_=>False):=by
      rw[ht];simp only
      rw[mq,mq,cG];split at h2
      ·rename_i a b ha hb;rw[ha,hb];obtain⟨h3,h4⟩:=cR h2;simp only[aK,aL]at h3;refine⟨h1.1,eq_of_beq h1.2,h3.1.1,h3.1.2,h3.2,Kq hK ?_ h4⟩;have:=bP (s:=s') o.dst (.own g dd ((l.take b.toNat).drop a.toNat));simp only[e,List.map_take,List.map_drop]at this;exact this
      ·cases h2
     unfold kb;rw[hk,bV];revert hnsl hnil;generalize e (bp s x)=w;intro hnsl hnil;cases w with
     |sl k rows=>exact absurd rfl (hnsl _ _)
     |nil=>exact absurd rfl hnil
     |_=>exact hmain
   ·cases h
 ·cases h
def Oo {c:Call}(hC:∀ f xs d s (K:TS->Option R) (K':St->Prop) r,(∀ s,K s=U r->K' (eS s))->C f xs d s K=U r->C' f xs d (eS s) K')(ho:o.op = .call c)(hK:∀ s,K s=U r->K' (eS s))(h:bZ T C o s K=U r):bO T C' o (eS s) K':=by
 simp only[bZ,ho]at h;simp only[bO,ho]
 split at h
 ·rename_i hc;rw[hc];simp only[a9,ho,hc]
  split at h
  ·rename_i x t hx ht;rw[hx,ht];simp only
   rw[bV];split at h
   ·rename_i l hk hv;rw[hk,hv];exact Kq hK (bP _ (.i _ _)) h
   ·rename_i t' v hk;split at h
    ·rename_i n hn;have hl:=Ok hn;rw[hk];simp only
     rw[hl];exact Kq hK (bP _ (.i _ _)) h
    ·cases h
   ·cases h
  ·cases h
 ·rename_i hc;rw[hc];simp only
  split at h
  ·rename_i x y t t' hx ht;rw[hx,ht];simp only
   split at h
   ·rename_i e1 e2 hk hk';rw[hk,hk'];split at h
    ·rename_i g hg;obtain⟨h1,h2⟩:=bj h;simp only[aK]at h1;obtain⟨k',rows',st1,k,rows,st2,hm,htk,hk1,hk2,hb,hK⟩:=Om (eq_of_beq h1.2) hK h2;rw[hm];simp only
     rw[htk];refine bG ?_ ⟨hb,hK⟩;rw[h1.1,hk1];rcases hk2 with h|h
     ·rw[h];simp
     ·rw[h];simp[zZ]
    ·cases h
   ·cases h
  ·cases h
 ·rename_i f hc;simp only[hc,a9,ho]
  exact hC _ _ _ _ _ _ _ hK h
 ·cases h
def Hb (hC:∀ f xs d s (K:TS->Option R) (K':St->Prop) r,(∀ s,K s=U r->K' (eS s))->C f xs d s K=U r->C' f xs d (eS s) K')(hK:∀ s,K s=U r->K' (eS s))(h:bZ T C o s K=U r):bO T C' o (eS s) K':=by
 cases ho:o.op with
 |move x=>exact NW ho hK h
 |assign x=>exact NX ho hK h
 |pick c x y=>exact NY ho hK h
 |alloc t=>exact NZ ho hK h
 |box t x=>exact N0 ho hK h
 |build t ps=>exact N1 ho hK h
 |buildSlice t n ps=>exact N2 ho hK h
 |load t x=>exact N6 ho hK h
 |store t x y=>exact N7 ho hK h
 |nilCheck x=>exact N8 ho hK h
 |binOp op t x y ty=>exact N9 ho hK h
 |unOp op t x=>exact N_ ho hK h
 |convert s d x=>exact Oa ho hK h
 |makeFunc f fs cs=>exact Oc ho hK h
 |makeSlice t l c=>exact Od ho hK h
 |slice t x lo hi mx=>exact On ho hK h
 |fieldAddr s x f=>exact Of ho hK h
 |field s x f=>exact Og ho hK h
 |indexAddr t x i=>exact Oh ho hK h
 |index t x i=>exact Oi ho hK h
 |extract x j=>exact Oj ho hK h
 |call c=>exact Oo hC ho hK h
 |_=>simp only[bZ,ho]at h;cases h
end
end Go.TM
end
