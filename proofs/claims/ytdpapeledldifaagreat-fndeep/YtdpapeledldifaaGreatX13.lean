/- Part 14 of the proof of FnDeep; no condition. -/
import Derived.Test.YtdpapeledldifaaGreatX12
open Option renaming some -> U
open Decidable renaming decide -> aa
open Bool renaming true -> ad
open Bool renaming false -> ag
open Option renaming none -> aj
open Sum renaming inl -> an
open Sum renaming inr -> ao
open List renaming length -> au
open Int renaming toNat -> aH
open List renaming drop -> kZ
open List renaming take -> nY
set_option autoImplicit true
set_option relaxedAutoImplicit true
set_option linter.all false
section
namespace Go.TM
open Go.AM
section
variable {R:Type}{T:Nat->TI}{C:ni R}{C':zAy}{o:Oper}{s:TS}{K:TS->Option R}{K':St->Prop}{r:R}
def Ns {v:V}{n:Nat}(h:Ao s v=U n):n6 (eS s) (e v)=U n:=by
 unfold Ao at h;split at h
 ·exact h
 ·exact h
 ·rename_i g l;simp only[e,n6,dG];exact h
 ·rename_i g d l;simp only[e,n6,dG];exact h
 ·rename_i a;simp only[e,n6]
  split at h
  ·rename_i m g d l hg;rw[jf hg];simp only[dG];exact h
  ·rename_i m cs hg;rw[jG hg];exact h
  ·rename_i m g d l j cs hg;rw[iN hg];simp only[List.length_set,rS];exact h
  ·rename_i m g l k hg;rw[vz hg];simp only[rS];exact h
  ·cases h
 ·cases h
def AD {x:Operand}{k0:Nat}{Kn:TS->Option R}{K:(g:GT)->Bool->List g.Den->TS->Option R}(h:takeT s k0 x Kn K=U r) :
  (∃s',takeRows (eS s) k0 x=U (k0,[],eS s')/\Kn s'=U r) \/
  ∃(g:GT) (d:Bool) (l:List g.Den) (s':TS),takeRows (eS s) k0 x=U (g.sz,l.map (aM d g),eS s')/\K g d l s'=U r:=by
 unfold takeT at h;unfold takeRows;rw[bW];split at h
 ·rename_i hv;rw[hv];exact .inl ⟨_,rfl,h⟩
 ·rename_i g hv;rw[hv];obtain⟨h1,h2⟩:=bl h;exact .inl ⟨_,by simp only[e,jE,eq_of_beq h1],h2⟩
 ·rename_i g d l hv;rw[hv];exact .inr ⟨g,d,l,_,by simp only[e,jE],h⟩
 ·rename_i a hv;rw[hv];simp only[e]
  split at h
  ·rename_i m g d l hg;rw[jf hg];exact .inr ⟨g,d,l,_,by simp only[p4,cS,if_false],h⟩
  ·cases h
 ·cases h
def Nu {y:Operand}{Kn:TS->Option R}{K:(g:GT)->Bool->List g.Den->TS->Option R}(h:Ap s y Kn K=U r) :
  (∃s' k,moreRows (eS s) y=U (k,[],eS s')/\Kn s'=U r) \/
  ∃(g:GT) (d:Bool) (l:List g.Den) (s':TS),moreRows (eS s) y=U (g.sz,l.map (aM d g),eS s')/\K g d l s'=U r:=by
 unfold Ap at h;unfold moreRows;rw[bW];split at h
 ·rename_i hv;rw[hv];exact .inl ⟨_,_,rfl,h⟩
 ·rename_i g hv;rw[hv];exact .inl ⟨_,g.sz,by simp only[e,jE],h⟩
 ·rename_i g d l hv;rw[hv];exact .inr ⟨g,d,l,_,by simp only[e,jE],h⟩
 ·rename_i g l hv;rw[hv];exact .inr ⟨g,ag,l,_,by simp only[e],h⟩
 ·cases h
def AE {a b:Nat}(h:(aa (a<=vm)&&aa (b<=vo))=ad):a<=9223372036854775807/\b<=140737488355328:=by
 simp only[aG,aI]at h;exact h
def Nv {t:Nat}{g:GT}{x y:Operand}{d:Option Tmp}(hg:g.sz=(T t).size)(hK:∀ s,K s=U r->K' (eS s))(h:Aq T t g x y d s K=U r) :
  ∃k' rows' st1 k rows st2,moreRows (eS s) y=U (k',rows',st1)/\takeRows st1 (T t).size x=U (k,rows,st2)/\k=(T t).size/\(k'=(T t).size\/rows'=[]) /\
   (rows.length+rows'.length<=9223372036854775807/\(rows.length+rows'.length)*(T t).bytes<=140737488355328)/\K' (aZ st2 d (.own (T t).size (rows++rows'))):=by
 unfold Aq at h;rcases Nu h with⟨s1,k',hm,h⟩|⟨g',d',l',s1,hm,h⟩
 ·rcases AD h with⟨s2,ht,h⟩|⟨g1,d1,l1,s2,ht,h⟩
  ·refine⟨_,_,_,_,_,_,hm,ht,rfl,.inr rfl,⟨by simp,by simp⟩,Kq hK ?_ h⟩;have:=bP (s:=s2) d (.own g ad []);simp only[e,hg]at this;exact this
  ·obtain⟨hs,h1⟩:=r8 h;obtain⟨h2,h3⟩:=cL h1;have hb:=AE h2
   have hl:(fC hs l1).length=l1.length:=by
    have:=congrArg au (jF hs l1 ad);simpa using this
   rw[hl]at hb;refine⟨_,_,_,_,_,_,hm,ht,by rw[<-gJ hs,hg],.inr rfl,⟨by simpa using hb.1,by simpa using hb.2⟩,Kq hK ?_ h3⟩;have:=bP (s:=s2) d (.own g d1 (fC hs l1));simp only[e,hg,jF]at this;rw[cN];exact this
 ·obtain⟨hs,h1⟩:=r8 h
  have hl':(fC hs l').length=l'.length:=by
   have:=congrArg au (jF hs l' ad);simpa using this
  rcases AD h1 with⟨s2,ht,h2⟩|⟨g1,d1,l1,s2,ht,h2⟩
  ·obtain⟨h3,h4⟩:=cL h2;have hb:=AE h3;rw[hl']at hb;refine⟨_,_,_,_,_,_,hm,ht,rfl,.inl (by rw[<-gJ hs,hg]),⟨by simpa using hb.1,by simpa using hb.2⟩,Kq hK ?_ h4⟩;have:=bP (s:=s2) d (.own g d' (fC hs l'));simp only[e,hg,jF]at this;exact this
  ·obtain⟨hs1,h3⟩:=r8 h2;obtain⟨h4,h5⟩:=bl h3;obtain⟨h6,h7⟩:=cL h5;have hb:=AE h6
   have hl1:(fC hs1 l1).length=l1.length:=by
    have:=congrArg au (jF hs1 l1 ad);simpa using this
   rw[hl',hl1]at hb;refine⟨_,_,_,_,_,_,hm,ht,by rw[<-gJ hs1,hg],.inl (by rw[<-gJ hs,hg]),⟨by simpa using hb.1,by simpa using hb.2⟩,Kq hK ?_ h7⟩;have:=bP (s:=s2) d (.own g d1 (fC hs1 l1++fC hs l'))
   have hd:d1=d'\/g.flat=ad:=by
    simp only[Bool.or_eq_true,beq_iff_eq]at h4;exact h4
   simp only[e,hg,List.map_append,jF,p5 hs l' hd]at this;exact this
def Nw {t:TypeId}{x:Operand}{lo hi mx:Option Operand}(ho:o.op = .slice t x lo hi mx)(hK:∀ s,K s=U r->K' (eS s))(h:b9 T C o s K=U r):bO T C' o (eS s) K':=by
 simp only[b9,ho]at h;simp only[bO,ho]
 unfold F7 at h;unfold rz;rw[bW];split at h
 ·rename_i hk;rw[hk];split at h
  ·rename_i l hv;rw[hv];simp only[e]
   unfold jW;rw[hk,bW,hv];simp only[e]
   rw[ma,ma];split at h
   ·rename_i a b ha hb;rw[ha,hb];obtain⟨h1,h2⟩:=cL h;simp only[aG,aI]at h1;exact⟨h1.1.1,h1.1.2,h1.2,Kq hK (bP _ (.s _)) h2⟩
   ·cases h
  ·cases h
 ·rename_i t' hk;rw[hk];split at h
  ·rename_i g l hv;rw[hv];simp only[e]
   obtain⟨h1,h2⟩:=bl h;simp only[aG]at h1;refine bF (by simp only[h1.1,h1.2,bp]) ?_;rw[dG]
   have hset:∀a b:Nat,aZ (eS s) o.dst (SV.sl g.sz (((l.map (aM ag g)).take b).drop a))=eS (bC s o.dst (.sl g ((l.take b).drop a))):=by
    intro a b;have:=bP (s:=s) o.dst (.sl g ((l.take b).drop a));simp only[e,List.map_take,List.map_drop]at this;exact this
   split at h2
   ·rw[ma,ma];split at h2
    ·rename_i a b ha hb;rw[ha,hb];obtain⟨h3,h4⟩:=cL h2;simp only[aG,aI]at h3;exact⟨⟨h3.1.1,h3.1.2,h3.2⟩,Kq hK (hset _ _) h4⟩
    ·cases h2
   ·rename_i m;simp only
    rw[ma,ma,ma];split at h2
    ·rename_i a b' b c ha hb2 hc;rw[ha,hb2,hc];obtain⟨h3,h4⟩:=cL h2;simp only[aG,aI,Bool.not_eq_true',bN]at h3;exact⟨⟨h3.1.1.1.1,h3.1.1.1.2,h3.1.1.2,h3.1.2,h3.2⟩,Kq hK (hset _ _) h4⟩
    ·cases h2
  ·rename_i hv;rw[hv];simp only[e]
   unfold jW;rw[hk,bW,hv];simp only[e]
   split at h
   ·obtain⟨h1,h2⟩:=bl h;exact⟨h1,Kq hK (bP _ .nil) h2⟩
   ·cases h
  ·cases h
  ·rename_i n1 n2 n3;split at h
   ·rcases AD h with⟨s',ht,h⟩|⟨g,dd,l,s',ht,h⟩
    ·cases h
    ·obtain⟨h1,h2⟩:=bl h;simp only[aG]at h1
     have hnsl:∀k rows,e (bw s x) ≠ .sl k rows:=by
      intro k rows hq;cases hv:bw s x<;>rw[hv]at hq<;>simp only[e]at hq<;>first|exact n1 _ _ hv|cases hq
     have hnil:e (bw s x) ≠ .nil:=by
      intro hq;cases hv:bw s x<;>rw[hv]at hq<;>simp only[e]at hq<;>first|exact n2 hv|cases hq
     have hmain:(match(aj:Option Operand),takeRows (eS s) (T t').size x with
       | none,U (k,rows,st')=>(T t').known=ad/\k=(T t').size/\match fq (eS s).env 0 lo,fq (eS s).env rows.length hi with
         |some a,U b=>0<=a/\a<=b/\b<=rows.length/\K' (aZ st' o.dst (.own k ((rows.take b.toNat).drop a.toNat)))
         |_,_=>False
       |_,_=>False):=by
      rw[ht];simp only
      rw[ma,ma,dG];split at h2
      ·rename_i a b ha hb;rw[ha,hb];obtain⟨h3,h4⟩:=cL h2;simp only[aG,aI]at h3;refine⟨h1.1,eq_of_beq h1.2,h3.1.1,h3.1.2,h3.2,Kq hK ?_ h4⟩;have:=bP (s:=s') o.dst (.own g dd ((l.take b.toNat).drop a.toNat));simp only[e,List.map_take,List.map_drop]at this;exact this
      ·cases h2
     unfold jW;rw[hk,bW];revert hnsl hnil;generalize e (bw s x)=w;intro hnsl hnil;cases w with
     |sl k rows=>exact absurd rfl (hnsl _ _)
     |nil=>exact absurd rfl hnil
     |_=>exact hmain
   ·cases h
 ·cases h
def Ny {c:Call}(hC:∀ f xs d s (K:TS->Option R) (K':St->Prop) r,(∀ s,K s=U r->K' (eS s))->C f xs d s K=U r->C' f xs d (eS s) K')(ho:o.op = .call c)(hK:∀ s,K s=U r->K' (eS s))(h:b9 T C o s K=U r):bO T C' o (eS s) K':=by
 simp only[b9,ho]at h;simp only[bO,ho]
 split at h
 ·rename_i hc;rw[hc];simp only[a9,ho,hc]
  split at h
  ·rename_i x t hx ht;rw[hx,ht];simp only
   rw[bW];split at h
   ·rename_i l hk hv;rw[hk,hv];exact Kq hK (bP _ (.i _ _)) h
   ·rename_i t' v hk;split at h
    ·rename_i n hn;have hl:=Ns hn;rw[hk];simp only
     rw[hl];exact Kq hK (bP _ (.i _ _)) h
    ·cases h
   ·cases h
  ·cases h
 ·rename_i hc;rw[hc];simp only
  split at h
  ·rename_i x y t t' hx ht;rw[hx,ht];simp only
   split at h
   ·rename_i e1 e2 hk hk';rw[hk,hk'];split at h
    ·rename_i g hg;obtain⟨h1,h2⟩:=bl h;simp only[aG]at h1;obtain⟨k',rows',st1,k,rows,st2,hm,htk,hk1,hk2,hb,hK⟩:=Nv (eq_of_beq h1.2) hK h2;rw[hm];simp only
     rw[htk];refine bF ?_ ⟨hb,hK⟩;rw[h1.1,hk1];rcases hk2 with h|h
     ·rw[h];simp
     ·rw[h];simp[zo]
    ·cases h
   ·cases h
  ·cases h
 ·rename_i f hc;simp only[hc,a9,ho]
  exact hC _ _ _ _ _ _ _ hK h
 ·cases h
def Gs (hC:∀ f xs d s (K:TS->Option R) (K':St->Prop) r,(∀ s,K s=U r->K' (eS s))->C f xs d s K=U r->C' f xs d (eS s) K')(hK:∀ s,K s=U r->K' (eS s))(h:b9 T C o s K=U r):bO T C' o (eS s) K':=by
 cases ho:o.op with
 |move x=>exact M3 ho hK h
 |assign x=>exact M4 ho hK h
 |pick c x y=>exact M5 ho hK h
 |alloc t=>exact M6 ho hK h
 |box t x=>exact M7 ho hK h
 |build t ps=>exact M8 ho hK h
 |buildSlice t n ps=>exact M9 ho hK h
 |load t x=>exact Nc ho hK h
 |store t x y=>exact Nd ho hK h
 |nilCheck x=>exact Nf ho hK h
 |binOp op t x y ty=>exact Ng ho hK h
 |unOp op t x=>exact Nh ho hK h
 |convert s d x=>exact Ni ho hK h
 |makeFunc f fs cs=>exact Nj ho hK h
 |makeSlice t l c=>exact Nk ho hK h
 |slice t x lo hi mx=>exact Nw ho hK h
 |fieldAddr s x f=>exact Nn ho hK h
 |field s x f=>exact No ho hK h
 |indexAddr t x i=>exact Np ho hK h
 |index t x i=>exact Nq ho hK h
 |extract x j=>exact Nr ho hK h
 |call c=>exact Ny hC ho hK h
 |_=>simp only[b9,ho]at h;cases h
end
end Go.TM
end
