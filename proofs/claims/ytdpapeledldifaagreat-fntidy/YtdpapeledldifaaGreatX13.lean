/- Part 14 of the proof of FnTidy; no condition. -/
import Derived.Test.YtdpapeledldifaaGreatX12
set_option autoImplicit true
set_option relaxedAutoImplicit true
set_option linter.all false
section
namespace Go.TM
open Go.AM
section
variable {R:Type}{T:Nat→TI}{C:zQl R}{C':zAx}{o:Oper}{s:TS}{K:TS→Option R}{K':St→Prop}{r:R}
def lenT_e {v:V}{n:Nat}(h:lenT s v=some n):zRk (eS s) (e v)=some n:=by
 unfold lenT at h;split at h
 ·exact h
 ·exact h
 ·rename_i g l;simp only[e,zRk,zLm];exact h
 ·rename_i g d l;simp only[e,zRk,zLm];exact h
 ·rename_i a;simp only[e,zRk]
  split at h
  ·rename_i m g d l hg;rw[zBP hg];simp only[zLm];exact h
  ·rename_i m cs hg;rw[zBT hg];exact h
  ·rename_i m g d l j cs hg;rw[zBM hg];simp only[List.length_set,zDl];exact h
  ·rename_i m g l k hg;rw[zHP hg];simp only[zDl];exact h
  ·cases h
 ·cases h
def zGU {x:Operand}{k0:Nat}{Kn:TS→Option R}{K:(g:GT)→Bool→List g.Den→TS→Option R}(h:takeT s k0 x Kn K=some r) :
  (∃s',takeRows (eS s) k0 x=some (k0,[],eS s')∧Kn s'=some r) ∨
  ∃(g:GT) (d:Bool) (l:List g.Den) (s':TS),takeRows (eS s) k0 x=some (g.sz,l.map (encC d g),eS s')∧K g d l s'=some r:=by
 unfold takeT at h;unfold takeRows;rw[zAr];split at h
 ·rename_i hv;rw[hv];exact .inl ⟨_,rfl,h⟩
 ·rename_i g hv;rw[hv];obtain⟨h1,h2⟩:=zAF h;exact .inl ⟨_,by simp only[e,zCl,eq_of_beq h1],h2⟩
 ·rename_i g d l hv;rw[hv];exact .inr ⟨g,d,l,_,by simp only[e,zCl],h⟩
 ·rename_i a hv;rw[hv];simp only[e]
  split at h
  ·rename_i m g d l hg;rw[zBP hg];exact .inr ⟨g,d,l,_,by simp only[zFw,zFt,if_false],h⟩
  ·cases h
 ·cases h
def zRi {y:Operand}{Kn:TS→Option R}{K:(g:GT)→Bool→List g.Den→TS→Option R}(h:moreT s y Kn K=some r) :
  (∃s' k,moreRows (eS s) y=some (k,[],eS s')∧Kn s'=some r) ∨
  ∃(g:GT) (d:Bool) (l:List g.Den) (s':TS),moreRows (eS s) y=some (g.sz,l.map (encC d g),eS s')∧K g d l s'=some r:=by
 unfold moreT at h;unfold moreRows;rw[zAr];split at h
 ·rename_i hv;rw[hv];exact .inl ⟨_,_,rfl,h⟩
 ·rename_i g hv;rw[hv];exact .inl ⟨_,g.sz,by simp only[e,zCl],h⟩
 ·rename_i g d l hv;rw[hv];exact .inr ⟨g,d,l,_,by simp only[e,zCl],h⟩
 ·rename_i g l hv;rw[hv];exact .inr ⟨g,false,l,_,by simp only[e],h⟩
 ·cases h
def bnd {a b:Nat}(h:(decide (a≤maxI)&&decide (b≤maxB))=true):a≤9223372036854775807∧b≤140737488355328:=by
 simp only[zBa,zDe]at h;exact h
def zUx {t:Nat}{g:GT}{x y:Operand}{d:Option Tmp}(hg:g.sz=(T t).size)(hK:∀ s,K s=some r→K' (eS s))(h:appT T t g x y d s K=some r) :
  ∃k' rows' st1 k rows st2,moreRows (eS s) y=some (k',rows',st1)∧takeRows st1 (T t).size x=some (k,rows,st2)∧k=(T t).size∧(k'=(T t).size∨rows'=[]) ∧
   (rows.length+rows'.length≤9223372036854775807∧(rows.length+rows'.length)*(T t).bytes≤140737488355328)∧K' (setD st2 d (.own (T t).size (rows++rows'))):=by
 unfold appT at h;rcases zRi h with⟨s1,k',hm,h⟩|⟨g',d',l',s1,hm,h⟩
 ·rcases zGU h with⟨s2,ht,h⟩|⟨g1,d1,l1,s2,ht,h⟩
  ·refine⟨_,_,_,_,_,_,hm,ht,rfl,.inr rfl,⟨by simp,by simp⟩,Kq hK ?_ h⟩;have:=zAR (s:=s2) d (.own g true []);simp only[e,hg]at this;exact this
  ·obtain⟨hs,h1⟩:=zEi h;obtain⟨h2,h3⟩:=zAP h1;have hb:=bnd h2
   have hl:(zEj hs l1).length=l1.length:=by
    have:=congrArg List.length (zBV hs l1 true);simpa using this
   rw[hl]at hb;refine⟨_,_,_,_,_,_,hm,ht,by rw[←zBn hs,hg],.inr rfl,⟨by simpa using hb.1,by simpa using hb.2⟩,Kq hK ?_ h3⟩;have:=zAR (s:=s2) d (.own g d1 (zEj hs l1));simp only[e,hg,zBV]at this;rw[zAn];exact this
 ·obtain⟨hs,h1⟩:=zEi h
  have hl':(zEj hs l').length=l'.length:=by
   have:=congrArg List.length (zBV hs l' true);simpa using this
  rcases zGU h1 with⟨s2,ht,h2⟩|⟨g1,d1,l1,s2,ht,h2⟩
  ·obtain⟨h3,h4⟩:=zAP h2;have hb:=bnd h3;rw[hl']at hb;refine⟨_,_,_,_,_,_,hm,ht,rfl,.inl (by rw[←zBn hs,hg]),⟨by simpa using hb.1,by simpa using hb.2⟩,Kq hK ?_ h4⟩;have:=zAR (s:=s2) d (.own g d' (zEj hs l'));simp only[e,hg,zBV]at this;exact this
  ·obtain⟨hs1,h3⟩:=zEi h2;obtain⟨h4,h5⟩:=zAF h3;obtain⟨h6,h7⟩:=zAP h5;have hb:=bnd h6
   have hl1:(zEj hs1 l1).length=l1.length:=by
    have:=congrArg List.length (zBV hs1 l1 true);simpa using this
   rw[hl',hl1]at hb;refine⟨_,_,_,_,_,_,hm,ht,by rw[←zBn hs1,hg],.inl (by rw[←zBn hs,hg]),⟨by simpa using hb.1,by simpa using hb.2⟩,Kq hK ?_ h7⟩;have:=zAR (s:=s2) d (.own g d1 (zEj hs1 l1++zEj hs l'))
   have hd:d1=d'∨g.flat=true:=by
    simp only[Bool.or_eq_true,beq_iff_eq]at h4;exact h4
   simp only[e,hg,List.map_append,zBV,zDV hs l' hd]at this;exact this
def tslice {t:TypeId}{x:Operand}{lo hi mx:Option Operand}(ho:o.op = .slice t x lo hi mx)(hK:∀ s,K s=some r→K' (eS s))(h:tstep T C o s K=some r):zAi T C' o (eS s) K':=by
 simp only[tstep,ho]at h;simp only[zAi,ho]
 unfold sliceT at h;unfold zPc;rw[zAr];split at h
 ·rename_i hk;rw[hk];split at h
  ·rename_i l hv;rw[hv];simp only[e]
   unfold zFK;rw[hk,zAr,hv];simp only[e]
   rw[zDN,zDN];split at h
   ·rename_i a b ha hb;rw[ha,hb];obtain⟨h1,h2⟩:=zAP h;simp only[zBa,zDe]at h1;exact⟨h1.1.1,h1.1.2,h1.2,Kq hK (zAR _ (.s _)) h2⟩
   ·cases h
  ·cases h
 ·rename_i t' hk;rw[hk];split at h
  ·rename_i g l hv;rw[hv];simp only[e]
   obtain⟨h1,h2⟩:=zAF h;simp only[zBa]at h1;refine zAQ (by simp only[h1.1,h1.2,zBs]) ?_;rw[zLm]
   have hset:∀a b:Nat,setD (eS s) o.dst (SV.sl g.sz (((l.map (encC false g)).take b).drop a))=eS (zAe s o.dst (.sl g ((l.take b).drop a))):=by
    intro a b;have:=zAR (s:=s) o.dst (.sl g ((l.take b).drop a));simp only[e,List.map_take,List.map_drop]at this;exact this
   split at h2
   ·rw[zDN,zDN];split at h2
    ·rename_i a b ha hb;rw[ha,hb];obtain⟨h3,h4⟩:=zAP h2;simp only[zBa,zDe]at h3;exact⟨⟨h3.1.1,h3.1.2,h3.2⟩,Kq hK (hset _ _) h4⟩
    ·cases h2
   ·rename_i m;simp only
    rw[zDN,zDN,zDN];split at h2
    ·rename_i a b' b c ha hb2 hc;rw[ha,hb2,hc];obtain⟨h3,h4⟩:=zAP h2;simp only[zBa,zDe,Bool.not_eq_true',zDn]at h3;exact⟨⟨h3.1.1.1.1,h3.1.1.1.2,h3.1.1.2,h3.1.2,h3.2⟩,Kq hK (hset _ _) h4⟩
    ·cases h2
  ·rename_i hv;rw[hv];simp only[e]
   unfold zFK;rw[hk,zAr,hv];simp only[e]
   split at h
   ·obtain⟨h1,h2⟩:=zAF h;exact⟨h1,Kq hK (zAR _ .nil) h2⟩
   ·cases h
  ·cases h
  ·rename_i n1 n2 n3;split at h
   ·rcases zGU h with⟨s',ht,h⟩|⟨g,dd,l,s',ht,h⟩
    ·cases h
    ·obtain⟨h1,h2⟩:=zAF h;simp only[zBa]at h1
     have hnsl:∀k rows,e (evT s x) ≠ .sl k rows:=by
      intro k rows hq;cases hv:evT s x<;>rw[hv]at hq<;>simp only[e]at hq<;>first|exact n1 _ _ hv|cases hq
     have hnil:e (evT s x) ≠ .nil:=by
      intro hq;cases hv:evT s x<;>rw[hv]at hq<;>simp only[e]at hq<;>first|exact n2 hv|cases hq
     have hmain:(match(none:Option Operand),takeRows (eS s) (T t').size x with
       | none,some (k,rows,st')=>(T t').known=true∧k=(T t').size∧match zCD (eS s).env 0 lo,zCD (eS s).env rows.length hi with
         |some a,some b=>0≤a∧a≤b∧b≤rows.length∧K' (setD st' o.dst (.own k ((rows.take b.toNat).drop a.toNat)))
         |_,_=>False
       |_,_=>False):=by
      rw[ht];simp only
      rw[zDN,zDN,zLm];split at h2
      ·rename_i a b ha hb;rw[ha,hb];obtain⟨h3,h4⟩:=zAP h2;simp only[zBa,zDe]at h3;refine⟨h1.1,eq_of_beq h1.2,h3.1.1,h3.1.2,h3.2,Kq hK ?_ h4⟩;have:=zAR (s:=s') o.dst (.own g dd ((l.take b.toNat).drop a.toNat));simp only[e,List.map_take,List.map_drop]at this;exact this
      ·cases h2
     unfold zFK;rw[hk,zAr];revert hnsl hnil;generalize e (evT s x)=w;intro hnsl hnil;cases w with
     |sl k rows=>exact absurd rfl (hnsl _ _)
     |nil=>exact absurd rfl hnil
     |_=>exact hmain
   ·cases h
 ·cases h
def tcall {c:Call}(hC:∀ f xs d s (K:TS→Option R) (K':St→Prop) r,(∀ s,K s=some r→K' (eS s))→C f xs d s K=some r→C' f xs d (eS s) K')(ho:o.op = .call c)(hK:∀ s,K s=some r→K' (eS s))(h:tstep T C o s K=some r):zAi T C' o (eS s) K':=by
 simp only[tstep,ho]at h;simp only[zAi,ho]
 split at h
 ·rename_i hc;rw[hc];simp only[zAL,ho,hc]
  split at h
  ·rename_i x t hx ht;rw[hx,ht];simp only
   rw[zAr];split at h
   ·rename_i l hk hv;rw[hk,hv];exact Kq hK (zAR _ (.i _ _)) h
   ·rename_i t' v hk;split at h
    ·rename_i n hn;have hl:=lenT_e hn;rw[hk];simp only
     rw[hl];exact Kq hK (zAR _ (.i _ _)) h
    ·cases h
   ·cases h
  ·cases h
 ·rename_i hc;rw[hc];simp only
  split at h
  ·rename_i x y t t' hx ht;rw[hx,ht];simp only
   split at h
   ·rename_i e1 e2 hk hk';rw[hk,hk'];split at h
    ·rename_i g hg;obtain⟨h1,h2⟩:=zAF h;simp only[zBa]at h1;obtain⟨k',rows',st1,k,rows,st2,hm,htk,hk1,hk2,hb,hK⟩:=zUx (eq_of_beq h1.2) hK h2;rw[hm];simp only
     rw[htk];refine zAQ ?_ ⟨hb,hK⟩;rw[h1.1,hk1];rcases hk2 with h|h
     ·rw[h];simp
     ·rw[h];simp[zXG]
    ·cases h
   ·cases h
  ·cases h
 ·rename_i f hc;simp only[hc,zAL,ho]
  exact hC _ _ _ _ _ _ _ hK h
 ·cases h
def zJD (hC:∀ f xs d s (K:TS→Option R) (K':St→Prop) r,(∀ s,K s=some r→K' (eS s))→C f xs d s K=some r→C' f xs d (eS s) K')(hK:∀ s,K s=some r→K' (eS s))(h:tstep T C o s K=some r):zAi T C' o (eS s) K':=by
 cases ho:o.op with
 |move x=>exact tmove ho hK h
 |assign x=>exact tassign ho hK h
 |pick c x y=>exact tpick ho hK h
 |alloc t=>exact talloc ho hK h
 |box t x=>exact tbox ho hK h
 |build t ps=>exact tbuild ho hK h
 |buildSlice t n ps=>exact zRK ho hK h
 |load t x=>exact tload ho hK h
 |store t x y=>exact tstore ho hK h
 |nilCheck x=>exact zVu ho hK h
 |binOp op t x y ty=>exact tbinOp ho hK h
 |unOp op t x=>exact tunOp ho hK h
 |convert s d x=>exact tconvert ho hK h
 |makeFunc f fs cs=>exact zVv ho hK h
 |makeSlice t l c=>exact zUU ho hK h
 |slice t x lo hi mx=>exact tslice ho hK h
 |fieldAddr s x f=>exact zUX ho hK h
 |field s x f=>exact tfield ho hK h
 |indexAddr t x i=>exact zUV ho hK h
 |index t x i=>exact tindex ho hK h
 |extract x j=>exact textract ho hK h
 |call c=>exact tcall hC ho hK h
 |_=>simp only[tstep,ho]at h;cases h
end
end Go.TM
end
