/- Part 31 of the proof of FnDeep; no condition. -/
import Derived.Test.YtdpapeledldifaaGreatX29
open Option renaming some -> U
open Decidable renaming decide -> aa
open Bool renaming true -> ad
open Bool renaming false -> ag
open Option renaming none -> aj
open Sum renaming inl -> an
open Sum renaming inr -> ao
open List renaming length -> au
open Int renaming toNat -> aH
open List renaming drop -> kZ
open List renaming take -> nY
set_option autoImplicit true
set_option relaxedAutoImplicit true
set_option linter.all false
namespace Go.Proofs.YtdpapeledldifaaGreat
section
open Go Go.AM Go.TM Go.Stow
def Dd (s:List UInt8)(c:UInt8)(hl:s.length<=1048576):tB (s,[c])=U (match s with|x::l=>if x=c then(l,ad)else(s,ag) | []=>(s,ag)):=by
 cases s with
 |nil=>rfl
 | cons x l=>
   have h1:(([c]:List UInt8).length:Int)<=(x::l).length:=by simp only[bD,cW];omega
   have h0:(0:Int)<=(([c]:List UInt8).length:Int):=by simp
   have ht:aH (([c]:List UInt8).length:Int)=1:=rfl;simp only[tB,Cn,Cm,h1,h0,Int.le_refl,ay,aP,bp,aC,ht,av,bT,aF,aY,List.take_length,List.drop_zero,List.take_succ_cons,List.take_zero,List.drop_succ_cons]
   by_cases hx:x=c
   ·rw[if_pos (by rw[hx]),if_pos hx,av]
   ·rw[if_neg (by simpa using hx),if_neg hx,av]
def De (s:List UInt8)(c:UInt8)(hl:s.length<=1048576):∃t b,xU (s,[c])=U (t,b)/\(b=ad->s=t++[c])/\(b=ag->∀u,s≠u++[c]):=by
 by_cases hs:s=[]
 ·subst hs;exact⟨[],ag,rfl,(fun h=>by cases h),fun _ u h=>by simp at h⟩
 ·have hpos:0<s.length:=List.length_pos_iff.2 hs;have h1:(([c]:List UInt8).length:Int)<=s.length:=by simp;omega
  have e1:(([c]:List UInt8).length:Int)=1:=rfl;have g1:(0:Int)<=(s.length:Int)-1:=by omega
  have g2:(s.length:Int)-1<=s.length:=by omega
  have ht:((s.length:Int)-1).toNat=s.length-1:=by omega
  have hsp:s.take (s.length-1)++s.drop (s.length-1)=s:=List.take_append_drop _ _;rw[e1]at h1;simp (discharger:=omega) only[xU,Cp,Co,e1,h1,ay,aP,wI,g1,g2,Int.le_refl,bp,aC,ht,aY,List.take_length,av,bT,aF,List.drop_zero]
  by_cases hx:s.drop (s.length-1)=[c]
  ·rw[if_pos hx,av];refine⟨_,_,rfl,fun _=>?_,fun h=>by cases h⟩;rw[<-hx,hsp]
  ·rw[if_neg hx,av];refine⟨_,_,rfl,(fun h=>by cases h),fun _ u hu=>hx ?_⟩;rw[hu];simp
def t8 (s:List UInt8)(hl:s.length<=1048576):o_ s=U (aa (Tok s)):=by
 simp only[o_,Cq,Dd s 76 hl,av]
 cases s with
 | nil=>
   obtain⟨t,b,e,h1,h2⟩:=De [] 59 (by simp);rw[e];simp[t5]
 | cons x l=>
   by_cases hx:x=76
   ·simp only[hx,if_true]
    have hll:l.length<=1048576:=by simp only[bD]at hl;omega
    obtain⟨t,b,e,h1,h2⟩:=De l 59 hll;rw[e];cases b with
    | true=>
      have h1:=h1 rfl;have htl:t.length<=1048576:=by rw[h1,aR]at hll;omega
      simp only[av,aP,C_ t htl,aF]
      by_cases hn:Nm t
      ·rw[if_pos hn,eq_comm];simp only[aK,aI]
       exact .inr ⟨t,hn,by rw[h1]⟩
      ·rw[if_neg hn];congr 1;rw[decide_eq_decide];refine⟨fun h=>.inl h,fun h=>?_⟩;rcases h with h|⟨n,hm,h⟩
       ·exact h
       ·simp only[List.cons.injEq,true_and]at h;rw[h1]at h;have:=List.append_cancel_right h;rw[this]at hn;exact absurd hm hn
    | false=>
      have h2:=h2 rfl;simp only[av,aP,aQ]
      congr 1;rw[decide_eq_decide];refine⟨fun h=>.inl h,fun h=>?_⟩;rcases h with h|⟨n,hm,h⟩
      ·exact h
      ·simp only[List.cons.injEq,true_and]at h;exact absurd h (h2 n)
   ·simp only[hx,if_false]
    obtain⟨t,b,e,h1,h2⟩:=De (x::l) 59 hl;rw[e];simp only[av,aQ]
    congr 1;rw[decide_eq_decide];refine⟨fun h=>.inl h,fun h=>?_⟩;rcases h with h|⟨n,hm,h⟩
    ·exact h
    ·simp only[List.cons.injEq]at h;exact absurd h.1 hx
def J3 (s:List UInt8)(c:UInt8):tC (s,(c.toNat:Int))=U (Lib.indexByte s c):=by
 simp only[tC,B0,av,aY]
 rw[show c.toNat.toUInt8=c from UInt8.ofNat_toNat]
def J4 (s:List UInt8):xX (s,59)=U (Lib.indexByte s 59):=by
 simp only[xX]
 rw[show((59:Int))=(((59:UInt8).toNat:Nat):Int)from rfl,J3,av]
def zaT (s:List UInt8)(hl:s.length<=1048576):xW s=U (match cut 41 s with|some (a,b)=>(a,b,ad)|none=>(s,[],ag)):=by
 have e321:xV s=U (Lib.indexByte s 41):=by
  simp only[xV,aJ,aF,ay,aP]
  have hat:∀k:UInt8->Option Int,aq [41] 0 k=k 41:=fun k=>rfl
  rw[hat,J3 s 41,av];by_cases h:([41]:List UInt8)=s
  ·rw[if_pos h,<-h];rfl
  ·rw[if_neg h];rfl
 simp only[xW,Cs,e321,av,aF]
 cases hc:cut 41 s with
 | none=>
   rw[C9 (yG.1 hc),if_neg (by omega)];rfl
 | some p=>
   obtain⟨a,b⟩:=p;obtain⟨h1,h2⟩:=t4 hc;have hlen:s.length=a.length+(b.length+1):=by rw[h1];simp
   rw[show Lib.indexByte s 41=(a.length:Int)by rw[h1];exact yL h2];have g0:(0:Int)<=a.length:=by omega
   have g1:(a.length:Int)<=s.length:=by omega
   have g2:(0:Int)<=(a.length:Int)+1:=by omega
   have g3:(a.length:Int)+1<=s.length:=by omega
   have ht:((a.length:Int)+1).toNat=a.length+1:=by omega
   have hta:s.take a.length=a:=by rw[h1];simp
   have hda:s.drop (a.length+1)=b:=by rw[h1];simp
   simp (discharger:=omega) only[g0,g1,g2,g3,wI,if_true,ay,bp,aC,bQ,Int.le_refl,aY,ht,List.take_length,hta,hda,List.drop_zero,av]
def zWl {X Y R:Type}{f:X->Option (X⊕(Y⊕R))}{k:Y->Option R}(mk:List (List UInt8)->List UInt8->X)(bad:R)(good:List (List UInt8)->R)
  (hend:∀out,bindE (aD f (mk out [])) k=U (good out))
  (hbad:∀out x l,(x::l).length<=1048576->(Stow.one (x::l)=aj\/out.length=4)->bindE (aD f (mk out (x::l))) k=U bad)
  (hstep:∀out x l t r,(x::l).length<=1048576->Stow.one (x::l)=U (t,r)->out.length<4->f (mk out (x::l))=U (.inl (mk (out++[t]) r))) :
  ∀(n:Nat) (s:List UInt8) (out:List (List UInt8)),s.length<=1048576->out.length+n=4->bindE (aD f (mk out s)) k=U (match mr n s with|some ts=>good (out++ts)|none=>bad):=by
 intro n
 induction n with
 | zero=>
   intro s out hs ho;cases s with
   |nil=>rw[hend];simp only[mr,cN]
   |cons x l=>rw[hbad out x l hs (.inr (by omega))];rfl
 | succ n ih=>
   intro s out hs ho;cases s with
   |nil=>rw[hend];simp only[mr,cN]
   | cons x l=>
     rw[JU];cases hone:Stow.one (x::l)with
     |none=>rw[hbad out x l hs (.inl hone)];rfl
     | some p=>
       obtain⟨t,r⟩:=p
       have hle:r.length<=1048576:=by
        have:=congrArg au (kT hone).1;rw[aR]at this;omega
       rw[nQ (hstep out x l t r hs hone (by omega)),ih r (out++[t]) hle (by simp;omega)];simp only[bh]
       cases mr n r with
       |none=>rfl
       |some q=>simp only[Option.map_some,b_,List.singleton_append]
noncomputable def eW (x:UInt8)(l:List UInt8):Nat:=if x=73 then 1 else(Lib.indexByte (x::l) 59+1).toNat
def J5 (x:UInt8)(l:List UInt8):eW x l<=(x::l).length/\((Lib.indexByte (x::l) 59+1:Int)=((Lib.indexByte (x::l) 59+1).toNat:Int))/\(Lib.indexByte (x::l) 59+1).toNat<=(x::l).length:=by
 have h:(Lib.indexByte (x::l) 59+1).toNat<=(x::l).length:=by
  cases hc:cut 59 (x::l)with
  |none=>rw[C9 (yG.1 hc)];simp
  | some p=>
    obtain⟨a,b⟩:=p;obtain⟨h1,h2⟩:=t4 hc;rw[h1,yL h2];simp
 have:=Lib.indexByte_ge (x::l) 59;refine⟨?_,by omega,h⟩;unfold eW;split
 ·simp
 ·exact h
def J6 (x:UInt8)(l:List UInt8):(Tok ((x::l).take (eW x l))->Stow.one (x::l)=U ((x::l).take (eW x l),(x::l).drop (eW x l)))/\(¬Tok ((x::l).take (eW x l))->Stow.one (x::l)=aj):=by
 constructor
 ·intro h;have:=yH h ((x::l).drop (eW x l));rwa[List.take_append_drop]at this
 ·intro h;rw[C4];intro t r e ht;have h0:=ht;rcases ht with rfl|⟨n,hn,rfl⟩
  ·have hx:x=73:=by simp at e;exact e.1
   rw[show eW x l=1 by unfold eW;rw[if_pos hx]]at h;apply h;rw[e];exact h0
  ·have e2:x::l=(76::n)++59::r:=by rw[e];simp
   have hx:x=76:=by simp at e;exact e.1
   have hno:(59:UInt8) ∉ 76::n:=by
    have:=hn.no 59 JS;simp[this]
   apply h
   have hs:eW x l=(76::n).length+1:=by
    unfold eW;rw[if_neg (by rw[hx];decide),e2,yL hno];omega
   rw[hs,e2]
   have:((76::n)++59::r).take ((76::n).length+1)=76::(n++[59]):=by
    rw[show(76::n)++59::r=(76::(n++[59]))++r by simp,show(76::n).length+1=(76::(n++[59])).length by simp];exact List.take_left' rfl
   rw[this];exact h0
def Df (s:List UInt8)(hl:s.length<=1048576):qK s=U (ib s):=by
 simp only[qK,zaT s hl,av]
 cases hc:cut 41 s with
 | none=>
   simp only[bT,aQ,Dd s 40 hl]
   have:ib s=([],[],ag):=by
    cases s with
    |nil=>rfl
    | cons x l=>
      rw[yM];have h41:=yG.1 hc;simp only[List.mem_cons,not_or]at h41;rw[JW 4 l h41.2];split<;>rfl
   rw[this];cases s with
   |nil=>rfl
   |cons x l=>by_cases hx:x=40<;>simp only[hx,if_true,if_false,av,aT]
 | some p=>
   obtain⟨a,b⟩:=p;obtain⟨h1,h2⟩:=t4 hc;have hal:a.length<=1048576:=by rw[h1,aR]at hl;omega
   have hbl:b.length<=1048576:=by rw[h1,aR,bD]at hl;omega
   simp only[Dd a 40 hal,av]
   cases a with
   | nil=>
     simp only[bT,aP,aQ,aT]
     rw[h1,dz,yM,if_neg (by decide)]
   | cons x l=>
     rw[h1,cD,yM];by_cases hx:x=40
     ·have hno:(41:UInt8) ∉ l:=fun hm=>h2 (by simp[hm])
      have hll:l.length<=1048576:=by simp only[bD]at hal;omega
      rw[if_pos hx,JV 4 l b hno];simp only[hx,if_true,bT,aP,aF,t8 b hbl,av]
      by_cases hb:b=[86]\/Tok b
      ·have hgo:∀A B:Option ((List UInt8×List UInt8)⊕(List (List UInt8)×List UInt8×Bool)),(if b=[86]then A else(if Tok b then A else B))=A:=by
        intro A B;rcases hb with hb|hb
        ·rw[if_pos hb]
        ·rw[if_pos hb];split<;>rfl
       rw[hgo,aJ];simp only
       refine(zWl (fun out rest=>(b,rest,out)) ([],[],ag) (fun ts=>(ts,b,ad)) ?_ ?_ ?_ 4 l [] hll rfl).trans ?_
       ·intro out;rw[iF (y:=.inl (b,out)) (by simp only[if_true])];rfl
       ·intro out x l hs hh;have hne:¬(x::l=[]):=by simp
        obtain⟨s1,s2,s3⟩:=J5 x l;obtain⟨k1,k2⟩:=J6 x l;rw[iF (y:=.inr ([],[],ag))]
        ·rfl
        ·simp only[hne,if_false,aq,List.getElem?_cons_zero,Da,J4,av]
         rw[show IntKind.wrap .i64 (Lib.indexByte (x::l) 59+1)=((Lib.indexByte (x::l) 59+1).toNat:Int)by rw[wI (by omega) (by omega)];exact s2];rw[show(if x=73 then U (Sum.inl (b,x::l,out,(1:Int)))else U (Sum.inl (b,x::l,out,((Lib.indexByte (x::l) 59+1).toNat:Int))):Option ((List UInt8×List UInt8×List (List UInt8)×Int)⊕((List UInt8×List UInt8×List (List UInt8))⊕((List UInt8×List (List UInt8))⊕(List (List UInt8)×List UInt8×Bool)))))=U (Sum.inl (b,x::l,out,(eW x l:Int)))by unfold eW;split<;>rfl];have g0:(0:Int)<=(eW x l:Int):=by omega
         have g1:(eW x l:Int)<=((x::l).length:Int):=by omega
         have hb1:((x::l).take (eW x l)).length<=1048576:=by simp only[cA];omega
         simp only[aJ,g0,g1,ay,bp,aC,aY,List.drop_zero,t8 _ hb1,av,aF]
         by_cases htk:Tok ((x::l).take (eW x l))
         ·rw[if_pos htk]
          have h4:(out.length:Int)=4:=by
           rcases hh with hh|hh
           ·rw[k1 htk]at hh;cases hh
           ·omega
          rw[if_pos h4,aT]
         ·rw[if_neg htk,aT]
       ·intro out x l t r hs ho hlt;have hne:¬(x::l=[]):=by simp
        obtain⟨s1,s2,s3⟩:=J5 x l;obtain⟨k1,k2⟩:=J6 x l;simp only[hne,if_false,aq,List.getElem?_cons_zero,Da,J4,av]
        rw[show IntKind.wrap .i64 (Lib.indexByte (x::l) 59+1)=((Lib.indexByte (x::l) 59+1).toNat:Int)by rw[wI (by omega) (by omega)];exact s2];rw[show(if x=73 then U (Sum.inl (b,x::l,out,(1:Int)))else U (Sum.inl (b,x::l,out,((Lib.indexByte (x::l) 59+1).toNat:Int))):Option ((List UInt8×List UInt8×List (List UInt8)×Int)⊕((List UInt8×List UInt8×List (List UInt8))⊕((List UInt8×List (List UInt8))⊕(List (List UInt8)×List UInt8×Bool)))))=U (Sum.inl (b,x::l,out,(eW x l:Int)))by unfold eW;split<;>rfl];have g0:(0:Int)<=(eW x l:Int):=by omega
        have g1:(eW x l:Int)<=((x::l).length:Int):=by omega
        have hb1:((x::l).take (eW x l)).length<=1048576:=by simp only[cA];omega
        simp only[aJ,g0,g1,ay,bp,aC,aY,List.drop_zero,t8 _ hb1,av,aF]
        have htk:Tok ((x::l).take (eW x l)):=Classical.byContradiction fun hn=>by rw[k2 hn]at ho;cases ho
        have h4:¬(out.length:Int)=4:=by omega
        have q5:out.length+1<=9223372036854775807:=by omega
        have q6:(out.length+1)*16<=140737488355328:=by omega
        rw[if_pos htk,if_neg h4,aJ];rw[k1 htk]at ho;simp only[aK,bH]at ho;simp only[g0,g1,q5,q6,Int.le_refl,ay,bp,aC,aY,List.take_length,List.drop_zero,ho.1,ho.2]
       ·cases mr 4 l with
        |none=>rfl
        |some ts=>simp only[dz,Option.map_some,t7,if_pos hb]
      ·have hb1:¬b=[86]:=fun h=>hb (.inl h)
       have hb2:¬Tok b:=fun h=>hb (.inr h)
       simp only[hb1,hb2,if_false,aT]
       cases mr 4 l with
       |none=>rfl
       |some ts=>simp only[Option.map_some,t7,if_neg hb]
     ·rw[if_neg hx];simp only[hx,if_false,bT,aP,aQ,aT]
end
end Go.Proofs.YtdpapeledldifaaGreat
section
namespace Go.Stow
def cj (p:List Ent):Prop:=p.length<=1048576/\∀x∈p,x.2.1.length<=1048576
def cj.at {p:List Ent}(h:cj p)(i:Int):(bb p i).2.1.length<=1048576:=by
 unfold bb;split
 ·rename_i hi;rw[bt (by omega)];exact h.2 _ (List.getElem_mem _)
 ·simp
end Go.Stow
namespace Go.Proofs.YtdpapeledldifaaGreat
open Go Go.AM Go.TM Go.Stow
def J7 (s:List UInt8)(hl:s.length<=1048576):tD s=U (aa (Dsc s)):=by
 simp only[tD,Df s hl,av]
 congr 1;rw[Bool.eq_iff_iff,decide_eq_true_iff];exact Iff.rfl
noncomputable instance (s:List UInt8):Decidable (zOy s):=Classical.propDecidable _
def J8 (s:List UInt8)(hl:s.length<=1048576):tE s=U (aa (zOy s)):=by
 simp only[tE,t8 s hl,J7 s hl,av,aF]
 by_cases h:Tok s
 ·rw[if_pos h,eq_comm];simp only[aK,aI];exact .inl h
 ·rw[if_neg h];congr 1;rw[decide_eq_decide];exact⟨fun h=>.inr h,fun h'=>h'.resolve_left h⟩
def qY (p:List Cst)(i:Int)(hp:p.length<=1048576):mv (p,i)=U (bb p i):=by
 simp only[mv,i4,av,aF]
 unfold bb;by_cases h:1<=i/\i<=p.length
 ·rw[if_pos h,if_pos h];have h1:(0:Int)<=i-1:=by omega
  rw[wI (by omega) (by omega),cd h1,bE (by omega),bt (by omega)];rfl
 ·rw[if_neg h,if_neg h]
def jO (p:List Cst)(i:Int)(hp:p.length<=1048576):gv (p,i)=U (bb p i):=by
 simp only[gv,jr,av,bT,aF]
 unfold bb;by_cases h:1<=i/\i<=p.length
 ·rw[if_pos h,if_pos h];have h1:(0:Int)<=i-1:=by omega
  rw[wI (by omega) (by omega),cd h1,bE (by omega),bt (by omega)];rfl
 ·rw[if_neg h,if_neg h]
def gy {R:Type}{r:Option Cst}{e:Cst}(h:r=U e)(k:Cst->Option R):ai r k=k (e.1,e.2.1,e.2.2.1,e.2.2.2):=by rw[h];rfl
def nR (p:List Cst)(i:Int)(hp:cj p):fI (p,i)=U (bq p i):=by
 simp only[fI]
 rw[gy (qY p i hp.1)];simp only[bT,aF,bq]
 split<;>rfl
def jP {p:List Cst}(h:cj p)(i:Int):(bq p i).length<=1048576:=by
 unfold bq;split
 ·exact h.at i
 ·simp
def pn (p:List Cst)(i:Int)(hp:cj p):iR (p,i)=U (cg p i):=by
 simp only[iR]
 rw[gy (qY p i hp.1)];simp only
 rw[gy (qY p _ hp.1)];simp only[bT,aF,qW _ (hp.at _),av,cg]
 by_cases h1:(bb p i).1=2
 ·by_cases h2:(bb p (bb p i).2.2.1).1=1
  ·by_cases h3:Nm (bb p (bb p i).2.2.1).2.1
   ·rw[if_pos h1,if_pos h2,if_pos h3,if_pos ⟨h1,h2,h3⟩]
   ·rw[if_pos h1,if_pos h2,if_neg h3,if_neg fun h=>h3 h.2.2]
  ·rw[if_pos h1,if_neg h2,if_neg fun h=>h2 h.2.1]
 ·rw[if_neg h1,if_neg fun h=>h1 h.1]
def J9 (p:List Cst)(i:Int)(hp:cj p):ta (p,i)=U (cg p (bb p i).2.2.1,bq p (bb p (bb p i).2.2.2).2.2.1,bq p (bb p (bb p i).2.2.2).2.2.2):=by
 simp only[ta]
 rw[gy (qY p i hp.1)];simp only
 rw[gy (qY p _ hp.1)];simp only[pn p _ hp,nR p _ hp,av,eq_self,ay,aC,bQ]
def J_ (p:List Cst)(i k:Int)(hp:cj p):tc (p,i,k)=U (aa ((bb p i).1=k)):=by
 simp only[tc]
 rw[gy (qY p i hp.1)]
def yO {p:List Cst}{i:Int}{Q:List UInt8->Prop}[Decidable (Q (bb p i).2.1)]:(if(bb p i).1=1 then U (aa (Q (bb p i).2.1))else U ag:Option Bool)=U (aa (ch p i Q)):=by
 by_cases h:(bb p i).1=1
 ·rw[if_pos h];congr 1;rw[decide_eq_decide];exact⟨fun h'=>⟨h,h'⟩,fun h'=>h'.2⟩
 ·rw[if_neg h,eq_comm];simp only[aK,bN];exact fun h'=>h h'.1
def yP (p:List Cst)(i:Int)(hp:cj p):nK (p,i)=U (aa (ch p i Nm)):=by
 simp only[nK]
 rw[gy (jO p i hp.1)];simp only[C_ _ (hp.at i),av,aF]
 exact yO
def zaU (p:List Cst)(i:Int)(hp:cj p):xY (p,i)=U (aa (ch p i zOy)):=by
 simp only[xY]
 rw[gy (jO p i hp.1)];simp only[J8 _ (hp.at i),av,aF]
 exact yO
def Ka (p:List Cst)(i:Int)(hp:cj p):tG (p,i)=U (aa (ch p i Tok)):=by
 simp only[tG]
 rw[gy (jO p i hp.1)];simp only[t8 _ (hp.at i),av,aF]
 exact yO
def Kb (p:List Cst)(i:Int)(hp:cj p):tH (p,i)=U (aa (ch p i Dsc)):=by
 simp only[tH]
 rw[gy (jO p i hp.1)];simp only[J7 _ (hp.at i),av,aF]
 exact yO
def Kc (p:List Cst)(i:Int)(hp:cj p):tF (p,i)=U (aa (cO p i)):=by
 simp only[tF]
 rw[gy (jO p i hp.1)];simp only[yP p _ hp,av,aF]
 by_cases h:(bb p i).1=2
 ·rw[if_pos h];congr 1;rw[decide_eq_decide];exact⟨fun h'=>⟨h,h'⟩,fun h'=>h'.2⟩
 ·rw[if_neg h,eq_comm];simp only[aK,bN];exact fun h'=>h h'.1
def sd {P:Prop}[Decidable P]:∀{b:Bool},(b=ad↔P)->U b=U (aa P):=by
 intro b h;congr 1;rw[Bool.eq_iff_iff,h,decide_eq_true_iff]
def zaV (p:List Cst)(x:Cst)(hp:cj p):xZ (p,x)=U (aa (x.2.1=[]/\cO p x.2.2.1/\(bb p x.2.2.2).1=3/\ch p (bb p x.2.2.2).2.2.2 Tok),p,x):=by
 obtain⟨x0,x1,x2,x3⟩:=x;simp only[xZ]
 rw[gy (jO p x3 hp.1)];simp only[Kc p _ hp,Ka p _ hp,av,aF]
 by_cases h1:x1=[]<;>by_cases h2:cO p x2<;>by_cases h3:(bb p x3).1=3<;>simp[h1,h2,h3]
def zaW (p:List Cst)(x:Cst)(hp:cj p):tJ (p,x)=U (aa (x.2.1=[]/\cO p x.2.2.1/\(bb p x.2.2.2).1=3/\ch p (bb p x.2.2.2).2.2.2 Dsc),p,x):=by
 obtain⟨x0,x1,x2,x3⟩:=x;simp only[tJ]
 rw[gy (jO p x3 hp.1)];simp only[Kc p _ hp,Kb p _ hp,av,aF]
 by_cases h1:x1=[]<;>by_cases h2:cO p x2<;>by_cases h3:(bb p x3).1=3<;>simp[h1,h2,h3]
def q52 (p:List Cst)(x:Cst)(hp:cj p)(hx:x.2.1.length<=1048576):tK (p,x)=U (aa (eV p x)):=by
 obtain⟨x0,x1,x2,x3⟩:=x;simp only at hx;simp only[tK,zaV p _ hp,zaW p _ hp,yP p _ hp,zaU p _ hp,C_ _ hx,J8 _ hx,av,aF]
 unfold eV;simp only
 by_cases h1:x0=1
 ·by_cases h2:x2=0
  ·by_cases h3:x3=0
   ·by_cases h4:Nm x1
    ·simp[h1,h2,h3,h4]
    ·simp[h1,h2,h3,h4]
   ·simp[h1,h2,h3]
  ·simp[h1,h2]
 ·by_cases h2:x0=2
  ·by_cases h3:x1=[]
   ·by_cases h4:x3=0<;>simp[h2,h3,h4]
   ·simp[h2,h3]
  ·by_cases h3:x0=3
   ·by_cases h4:x1=[]
    ·by_cases h5:ch p x2 Nm<;>simp[h3,h4,h5]
    ·simp[h3,h4]
   ·by_cases h4:x0=4
    ·simp[h4]
    ·by_cases h5:x0=5
     ·simp[h5]
     ·by_cases h6:x0=6
      ·simp[h6]
      ·simp[h1,h2,h3,h4,h5,h6]
def Kd (p:List Cst)(i:Nat)(hp:cj p)(hi:i<p.length):td (p,(i:Int))=U (aa (eV p p[i])):=by
 have h0:(0:Int)<=i:=by omega
 have hw:IntKind.wrap .i64 ((i:Int)+1)=(i:Int)+1:=by have:=hp.1;exact wI (by omega) (by omega)
 have hx:p[i].2.1.length<=1048576:=hp.2 _ (List.getElem_mem hi);have he:=zXy hi;simp only[td,h0,ay,aC,aY,hw]
 rw[bE hi];simp only[pn p _ hp,nR p _ hp,J9 p _ hp,J_ p _ _ hp,i4,he,qW _ hx,qX _ hx,yN _ hx,qW _ (jP hp _),qX _ (jP hp _),yN _ (jP hp _),av,bT,aF]
 generalize hxe:p[i]=x at he;obtain⟨x0,x1,x2,x3⟩:=x;rw[hxe]at hx;simp only at hx ⊢;by_cases e1:x0=1
 ·subst e1;by_cases h2:x2=0<;>by_cases h3:x3=0<;>by_cases h4:Nm x1<;>by_cases h5:Tok x1<;>simp only[h2,h3,h4,h5,if_true,if_false]<;>exact sd (by unfold eV;simp[*,zOy])
 rw[if_neg e1];by_cases e2:x0=2
 ·have hc:cg p ((i:Int)+1)=[]↔¬ch p x2 Nm:=by
   rw[<-Classical.not_not (a:=cg p ((i:Int)+1)=[]),not_congr];show cg p ((i:Int)+1)≠[]↔_;rw[kU];unfold cO;rw[he];simp[e2]
  subst e2;by_cases h3:x1=[]<;>by_cases h4:x3=0<;>by_cases h5:ch p x2 Nm<;>simp only[h3,h4,if_true,if_false]<;>exact sd (by unfold eV;simp[*])
 rw[if_neg e2];by_cases e3:x0=3
 ·have h6:Nm (bq p x2)↔ch p x2 Nm:=nP C2;have h7:Tok (bq p x3)\/Dsc (bq p x3)↔ch p x3 zOy:=nP (Q:=zOy) zOH;subst e3;by_cases h3:x1=[]<;>by_cases h4:Nm (bq p x2)<;>by_cases h5:Tok (bq p x3)<;>by_cases h8:Dsc (bq p x3)<;>simp only[h3,h4,h5,h8,if_true,if_false]<;>exact sd (by unfold eV;rw[<-h6,<-h7];clear h6 h7 he hxe;simp[*])
 rw[if_neg e3]
 have hc:cg p x2=[]↔¬cO p x2:=by
  rw[<-Classical.not_not (a:=cg p x2=[]),not_congr];exact kU
 by_cases e4:4<=x0/\x0<=6
 ·rw[if_pos e4];by_cases h3:x1=[]
  ·rw[if_pos h3];by_cases h4:cg p x2=[]
   ·rw[if_pos h4,aT];have:=hc.1 h4;exact sd (by unfold eV;simp[*])
   ·rw[if_neg h4];have hcl:cO p x2:=Classical.byContradiction fun h=>h4 (hc.2 h)
    by_cases h5:(bb p x3).1=3
    ·rw[if_pos h5,aJ];simp only[qX _ (jP hp _),yN _ (jP hp _),av]
     have h6:Tok (bq p (bb p x3).2.2.2)↔ch p (bb p x3).2.2.2 Tok:=nP t5;have h7:Dsc (bq p (bb p x3).2.2.2)↔ch p (bb p x3).2.2.2 Dsc:=nP C5;by_cases h8:x0=4
     ·rw[if_pos h8];exact sd (by unfold eV;rw[decide_eq_true_iff,h6];simp[*])
     ·rw[if_neg h8];have h9:x0=5\/x0=6:=by omega
      exact sd (by unfold eV;rw[decide_eq_true_iff,h7];simp[*])
    ·rw[if_neg h5,aT];exact sd (by unfold eV;simp[*])
  ·rw[if_neg h3,aT];exact sd (by unfold eV;simp[*])
 ·rw[if_neg e4,aT];have h8:¬x0=4:=by omega
  have h9:¬x0=5:=by omega
  have h10:¬x0=6:=by omega
  exact sd (by unfold eV;simp[*])
def q15 (p:List Cst)(hp:cj p)(h60:p.length<=60):xo p=U (dZ p p.length 0):=by
 simp only[xo,aF,bT]
 have h61:¬(60:Int)<p.length:=by omega
 suffices h:∀(m i:Nat),i+m=p.length->∀k:List Cst->Option Int,k p=U 0->bindE (aD (fun(x:List Cst×Int)=>
   bindE (if x.2<(x.1.length:Int)then if x.2<60 then U (Sum.inl (x.1,x.2))else U (Sum.inr (Sum.inr (Sum.inl x.1)))else U (Sum.inr (Sum.inr (Sum.inl x.1)))) fun(pool2,i1)=>
   ai (td (pool2,i1)) fun y=>
   ah y (U (Sum.inl (pool2,IntKind.wrap .i64 (i1+1)))) (U (Sum.inr (Sum.inr (IntKind.wrap .i64 (i1+1)))))) (p,(i:Int))) k=U (dZ p m i)by
  refine h p.length 0 (by omega) _ ?_;rw[if_neg h61]
 intro m
 induction m with
 | zero=>
   intro i hi k hk;have h1:¬(i:Int)<p.length:=by omega
   rw[iF (y:=.inl p) (by simp only[h1,if_false,aT]),aJ,hk];rfl
 | succ m ih=>
   intro i hi k hk;have h1:(i:Int)<p.length:=by omega
   have h2:(i:Int)<60:=by omega
   have hlt:i<p.length:=by omega
   unfold dZ;rw[dif_pos hlt];by_cases he:eV p p[i]
   ·rw[if_pos he,<-ih (i+1) (by omega) k hk,nQ];simp only[h1,h2,if_true,aJ,Kd p i hp hlt,av,he,ay,aP]
    rw[wI (by omega) (by omega)];rfl
   ·rw[if_neg he,iF (y:=.inr ((i:Int)+1)),aT];simp only[h1,h2,if_true,aJ,Kd p i hp hlt,av,he,bm,aQ]
    rw[wI (by omega) (by omega)]
def q14 (p:List Cst)(hp:cj p)(h60:p.length<=60):x_ p=U (dZ p p.length 0):=by
 simp only[x_,aF,bT]
 suffices h:∀(m i:Nat),i+m=p.length->bindE (aD (fun(x:List Cst×List Cst×Int×Int)=>
   if x.2.2.2<x.2.2.1 then
    af (aa ((0:Int)<=x.2.2.2)) (aq x.2.1 (aH x.2.2.2) fun y=>if x.2.2.2=60 then U (Sum.inr (Sum.inr (61:Int)))else
     ai (tK (x.1,y.1,y.2.1,y.2.2.1,y.2.2.2)) fun z=>
     ah z (U (Sum.inl (x.1,x.2.1,x.2.2.1,IntKind.wrap .i64 (x.2.2.2+1)))) (U (Sum.inr (Sum.inr (IntKind.wrap .i64 (x.2.2.2+1))))))
   else U (Sum.inr (Sum.inl ()))) (p,p,(p.length:Int),(i:Int))) (fun _:Unit=>U (0:Int))=U (dZ p m i)by
  exact h p.length 0 (by omega)
 intro m
 induction m with
 | zero=>
   intro i hi;have h1:¬(i:Int)<p.length:=by omega
   rw[iF (y:=.inl ()) (by simp only[h1,if_false]),aJ];rfl
 | succ m ih=>
   intro i hi;have h1:(i:Int)<p.length:=by omega
   have h0:(0:Int)<=i:=by omega
   have h2:¬(i:Int)=60:=by omega
   have hlt:i<p.length:=by omega
   have hq:=q52 p p[i] hp (hp.2 _ (List.getElem_mem hlt));unfold dZ;rw[dif_pos hlt];by_cases he:eV p p[i]
   ·rw[if_pos he,<-ih (i+1) (by omega),nQ];simp (discharger:=assumption) only[h1,h2,h0,if_true,if_false,ay,aC,aY,bE,hq,av,he,aP]
    rw[wI (by omega) (by omega)];rfl
   ·rw[if_neg he,iF (y:=.inr ((i:Int)+1)),aT];simp (discharger:=assumption) only[h1,h2,h0,if_true,if_false,ay,aC,aY,bE,hq,av,he,bm,aQ]
    rw[wI (by omega) (by omega)]
end Go.Proofs.YtdpapeledldifaaGreat
end
section
namespace Go.TM
open Go.AM
section
variable {α X Y R S:Type}
def ed {l:List α}{n:Nat}{k:α->Option R}(d:α)(h:n<l.length):aq l n k=k (l.getD n d):=by
 rw[bE h,List.getD_eq_getElem?_getD,bt h];rfl
def Dg {f:X->Option (X⊕(Y⊕R))}(F:Option R->Option S)(mk:Nat->X)(fin:Y)(no:R)(n:Nat)(q:Nat->Prop){x0:X}{k:Y->Option R}{P:Prop}{A B:Option S}(hx:x0=mk 0)
  (hend:f (mk n)=U (.inr (.inl fin)))
  (hstep:∀i,i<n->(q i/\f (mk i)=U (.inl (mk (i+1))))\/(¬q i/\f (mk i)=U (.inr (.inr no))))
  (hP:P↔∀i,i<n->q i) (hA:F (k fin)=A) (hB:F (U no)=B) :
  (P/\F (bindE (aD f x0) k)=A)\/(¬P/\F (bindE (aD f x0) k)=B):=by
 have key:∀r,((∀i,i<n->q i)->k fin=r)->(¬(∀i,i<n->q i)->U no=r)->bindE (aD f x0) k=r:=fun r h1 h2=>
  yK mk fin no n q hx hend (fun i h hq=>(hstep i h).elim (fun h=>h.2) fun h=>absurd hq h.1) (fun i h hq=>(hstep i h).elim (fun h=>absurd h.1 hq) fun h=>h.2) h1 h2
 by_cases h:∀i,i<n->q i
 ·exact .inl ⟨hP.2 h,by rw[key (k fin) (fun _=>rfl) (fun h'=>absurd h h'),hA]⟩
 ·exact .inr ⟨fun hp=>h (hP.1 hp),by rw[key (U no) (fun h'=>absurd h' h) (fun _=>rfl),hB]⟩
def i5 {f:X->Option (X⊕(Y⊕R))}(mk:Nat->X)(fin:Y)(no:R)(n:Nat)(q:Nat->Prop){x0:X}{k:Y->Option R}{r:Option R}(hx:x0=mk 0)
  (hend:f (mk n)=U (.inr (.inl fin)))
  (hstep:∀i,i<n->(q i/\f (mk i)=U (.inl (mk (i+1))))\/(¬q i/\f (mk i)=U (.inr (.inr no))))
  (hk:(∀i,i<n->q i)->k fin=r) (hno:¬(∀i,i<n->q i)->U no=r):bindE (aD f x0) k=r :=
 yK mk fin no n q hx hend (fun i h hq=>(hstep i h).elim (fun h=>h.2) fun h=>absurd hq h.1) (fun i h hq=>(hstep i h).elim (fun h=>absurd h.1 hq) fun h=>h.2) hk hno
def yQ {f:X->Option (X⊕(Y⊕R))}(mk:Nat->X)(fin:Y)(g:Nat->R)(n:Nat)(q:Nat->Prop){x0:X}{k:Y->Option R}(hx:x0=mk 0)
  (hend:f (mk n)=U (.inr (.inl fin)))
  (hstep:∀i,i<n->(q i/\f (mk i)=U (.inr (.inr (g i))))\/(¬q i/\f (mk i)=U (.inl (mk (i+1))))) :
  ((∀i,i<n->¬q i)/\bindE (aD f x0) k=k fin)\/(∃i,i<n/\q i/\bindE (aD f x0) k=U (g i)):=by
 have key:∀(m i:Nat),i+m=n->((∀j,i<=j->j<n->¬q j)/\aD f (mk i)=U (.inl fin))\/(∃j,j<n/\q j/\aD f (mk i)=U (.inr (g j))):=by
  intro m
  induction m with
  | zero=>
    intro i hi;have:i=n:=by omega
    subst this;rw[eJ,hend];exact .inl ⟨fun j h1 h2=>absurd h2 (by omega),rfl⟩
  | succ m ih=>
    intro i hi;rw[eJ];rcases hstep i (by omega)with⟨hq,e⟩|⟨hq,e⟩
    ·rw[e];exact .inr ⟨i,by omega,hq,rfl⟩
    ·rw[e];rcases ih (i+1) (by omega)with⟨h1,h2⟩|h
     ·refine .inl ⟨fun j h3 h4=>?_,h2⟩;by_cases hj:j=i
      ·rw[hj];exact hq
      ·exact h1 j (by omega) h4
     ·exact .inr h
 rw[hx];rcases key n 0 (by omega)with⟨h1,h2⟩|⟨j,h1,h2,h3⟩
 ·exact .inl ⟨fun i hi=>h1 i (by omega) hi,by rw[h2,aJ]⟩
 ·exact .inr ⟨j,h1,h2,by rw[h3,aT]⟩
end
end Go.TM
end
section
namespace Go.Stow
def Ke {p:List Ent}{i:Int}:cg p i=[]↔¬cO p i:=by
 constructor
 ·intro h hc;exact kU.2 hc h
 ·intro h;exact Classical.byContradiction fun hn=>h (kU.1 hn)
end Go.Stow
namespace Go.Proofs.YtdpapeledldifaaGreat
open Go Go.AM Go.TM Go.Stow
def zaX (n:Fin 256):aa (dA .i64 (n.val:Int) 1=0) = !aa (aO (n.val:Int) 1):=by revert n;decide +kernel
def zaY (n:Fin 256):aa (dA .i64 (n.val:Int) 2=0) = !aa (aO (n.val:Int) 2):=by revert n;decide +kernel
def zaZ (n:Fin 256):aa (dA .i64 (n.val:Int) 4=0) = !aa (aO (n.val:Int) 4):=by revert n;decide +kernel
def za0 (n:Fin 256):aa (dA .i64 (n.val:Int) 8=0) = !aa (aO (n.val:Int) 8):=by revert n;decide +kernel
def Kf {f:Int}(h0:0<=f)(h1:f<=255):aa (dA .i64 f 1=0) = !aa (aO f 1):=by
 have:=zaX ⟨f.toNat,by omega⟩;rwa[show((f.toNat:Nat):Int)=f by omega]at this
def za1 {f:Int}(h0:0<=f)(h1:f<=255):aa (dA .i64 f 2=0) = !aa (aO f 2):=by
 have:=zaY ⟨f.toNat,by omega⟩;rwa[show((f.toNat:Nat):Int)=f by omega]at this
def Kg {f:Int}(h0:0<=f)(h1:f<=255):aa (dA .i64 f 4=0) = !aa (aO f 4):=by
 have:=zaZ ⟨f.toNat,by omega⟩;rwa[show((f.toNat:Nat):Int)=f by omega]at this
def za2 {f:Int}(h0:0<=f)(h1:f<=255):aa (dA .i64 f 8=0) = !aa (aO f 8):=by
 have:=za0 ⟨f.toNat,by omega⟩;rwa[show((f.toNat:Nat):Int)=f by omega]at this
def za3 {f:Int}(h0:0<=f)(h1:f<=255):(dA .i64 f 1=0)=¬aO f 1:=by
 have:=Kf h0 h1;apply propext;rw[<-decide_not,decide_eq_decide]at this;exact this
def za4 {f:Int}(h0:0<=f)(h1:f<=255):(dA .i64 f 2=0)=¬aO f 2:=by
 have:=za1 h0 h1;apply propext;rw[<-decide_not,decide_eq_decide]at this;exact this
def za5 {f:Int}(h0:0<=f)(h1:f<=255):(dA .i64 f 4=0)=¬aO f 4:=by
 have:=Kg h0 h1;apply propext;rw[<-decide_not,decide_eq_decide]at this;exact this
def kn {f k:Int}(h0:0<=f)(h1:f<=255)(hk:1<=k):gW (f,k)=U (aa (aO f k)):=by
 have hk0:¬k=0:=by omega
 have hd:0<=f / k:=Int.ediv_nonneg h0 (by omega);have hd2:f / k<=f:=Int.ediv_le_self k h0;simp only[gW,hk0,bm,Bool.not_false,aC]
 rw[Int.tdiv_eq_ediv_of_nonneg h0,wI (by omega) (by omega),Int.tmod_eq_emod_of_nonneg hd];rfl
def nS {α R:Type}{r:Option α}{a:α}(h:r=U a)(k:α->Option R):ai r k=k a:=by rw[h];rfl
def za6 (c:Cls)(hp:cj c.1)(hf:0<=c.2.1/\c.2.1<=255)(hl:c.2.2.2.2.1.length<=1048576):xp c=U (aa (fx c)):=by
 obtain⟨c0,c1,c2,c3,c4,c5,c6⟩:=c;obtain⟨hf0,hf1⟩:=hf;simp only at hp hf0 hf1 hl;have hH:fx (c0,c1,c2,c3,c4,c5,c6)↔(cO c0 c2/\cO c0 c3/\cg c0 c3≠cg c0 c2/\(0<=c1/\c1<=7)/\(∀i,i<c4.length->cO c0 (c4.getD i 0)/\∀k,k<i->cg c0 (c4.getD k 0)≠cg c0 (c4.getD i 0))/\¬(aO c1 2/\aO c1 4)/\(aO c1 1->aO c1 4/\cg c0 c3=[79,98,106])):=Iff.rfl;simp only[xp,pn _ _ hp,av,i4,bT,aF]
 by_cases a1:cg c0 c2=[]
 ·rw[if_pos a1,aT];exact sd (by rw[hH];simp[Ke.1 a1])
 rw[if_neg a1];have a1:=kU.1 a1;by_cases a2:cg c0 c3=[]
 ·rw[if_pos a2,aT];exact sd (by rw[hH];simp[Ke.1 a2])
 rw[if_neg a2];have a2:=kU.1 a2;by_cases a3:cg c0 c3=cg c0 c2
 ·rw[if_pos a3,aT];exact sd (by rw[hH];simp[a3])
 rw[if_neg a3];by_cases a4:0<=c1/\c1<=7
 ·rw[if_pos a4,aJ];simp only
  refine i5 (fun i=>(cg c0 c3,(i:Int),c0,c1,c2,c3,c4,c5,c6)) (cg c0 c3,c0,c1,c2,c3,c4,c5,c6) ag c4.length (fun i=>cO c0 (c4.getD i 0)/\∀k,k<i->cg c0 (c4.getD k 0)≠cg c0 (c4.getD i 0)) rfl ?_ ?_ ?_ ?_
  ·simp only[bG,if_false]
  ·intro i hi;have h1:(i:Int)<c4.length:=by omega
   have h0:(0:Int)<=i:=by omega
   simp only[h1,h0,if_true,ay,aC,aY]
   rw[ed 0 hi];simp only[pn _ _ hp,av]
   by_cases b1:cg c0 (c4.getD i 0)=[]
   ·rw[if_pos b1,aT];exact .inr ⟨fun h=>kU.2 h.1 b1,rfl⟩
   ·rw[if_neg b1];have b1:=kU.1 b1;refine Dg (F:=(bindE · _)) (fun k=>(cg c0 c3,(i:Int),(k:Int),c0,c1,c2,c3,c4,c5,c6)) (cg c0 c3,(i:Int),c0,c1,c2,c3,c4,c5,c6) (.inr (.inr (.inr ag))) i (fun k=>cg c0 (c4.getD k 0)≠cg c0 (c4.getD i 0)) rfl ?_ ?_ ?_ ?_ ?_
    ·simp only[bG,if_false]
    ·intro k hk;have k1:(k:Int)<i:=by omega
     have k0:(0:Int)<=k:=by omega
     have hkl:k<c4.length:=by omega
     simp only[k1,k0,h0,if_true,ay,aC,aY]
     rw[ed 0 hkl,ed 0 hi];simp only[ed 0 hi,pn _ _ hp,av,eq_self,ay,ck,aC,bQ]
     by_cases e:cg c0 (c4.getD k 0)=cg c0 (c4.getD i 0)
     ·rw[if_pos e];exact .inr ⟨fun h=>h e,rfl⟩
     ·rw[if_neg e,wI (by omega) (by omega)];exact .inl ⟨e,rfl⟩
    ·exact⟨fun h=>h.2,fun h=>⟨b1,h⟩⟩
    ·simp only[aJ]
     rw[wI (by omega) (by omega)];rfl
    ·rfl
  ·intro hall
   have hH':fx (c0,c1,c2,c3,c4,c5,c6)↔(¬(aO c1 2/\aO c1 4)/\(aO c1 1->aO c1 4/\cg c0 c3=[79,98,106])):=by
    rw[hH];exact⟨fun h=>h.2.2.2.2.2,fun h=>⟨a1,a2,a3,a4,hall,h⟩⟩
   simp only[kn hf0 hf1 (show(1:Int)<=2 by omega),kn hf0 hf1 (show(1:Int)<=4 by omega),kn hf0 hf1 (show(1:Int)<=1 by omega),av,aF]
   by_cases b2:aO c1 2<;>by_cases b4:aO c1 4<;>by_cases b1:aO c1 1<;>simp only[kn hf0 hf1 (show(1:Int)<=4 by omega),kn hf0 hf1 (show(1:Int)<=1 by omega),av,aF,b1,b2,b4,if_true,if_false,aJ,aT]<;>refine sd ?_<;>rw[hH']<;>simp[b1,b2,b4]
  ·intro hall;exact sd (by rw[hH];simp only[cS,false_iff];exact fun h=>hall h.2.2.2.2.1)
 ·rw[if_neg a4,aT];exact sd (by rw[hH];simp only[cS,false_iff];exact fun h=>a4 h.2.2.2.1)
def Dh (c:Cls)(i:Int)(hp:cj c.1):kP (c,i)=U (aa ((bb c.1 i).1=2)):=by
 obtain⟨c0,c1,c2,c3,c4,c5,c6⟩:=c;simp only[kP]
 rw[gy (jO c0 i hp.1)]
def po (c:Cls)(i:Int)(hp:cj c.1):df (c,i)=U (bU c.1 i):=by
 obtain⟨c0,c1,c2,c3,c4,c5,c6⟩:=c;simp only[df]
 rw[gy (jO c0 i hp.1)];simp only
 rw[gy (jO c0 _ hp.1),aF];unfold bU;simp only
 split<;>rfl
def Di (c:Cls)(hf:0<=c.2.1/\c.2.1<=255):pb c=U (aa (aO c.2.1 1)):=by
 obtain⟨c0,c1,c2,c3,c4,c5,c6⟩:=c;obtain⟨hf0,hf1⟩:=hf;simp only at hf0 hf1;simp only[pb,Kf hf0 hf1,Bool.not_not]
def za7 (c:Cls)(g i:Int)(hp:cj c.1):tL (g,c,i)=U (aa (bU c.1 g=bU c.1 i),c,i):=by
 obtain⟨c0,c1,c2,c3,c4,c5,c6⟩:=c;simp only[tL,po _ _ hp,av,eq_self,ay,ck,bp,aC,bQ]
def za8 (c:Cls)(s:List Int)(i:Int)(hp:cj c.1)(hl:s.length<=1048576):∃b,ya (s,c,i)=U (b,c,i)/\(b=ag↔∀k,k<s.length->bU c.1 (s.getD k 0)≠bU c.1 i):=by
 obtain⟨c0,c1,c2,c3,c4,c5,c6⟩:=c;simp only[ya,Ct]
 have key:=yQ (f:=(fun(x:List Int×Int×Int×Cls×Int)=>ah (aa (x.2.2.1<x.2.1))
    (af (aa (0<=x.2.2.1)) (aq x.1 (aH x.2.2.1) fun y=>ai (tL (y,(x.2.2.2.1.1,x.2.2.2.1.2.1,x.2.2.2.1.2.2.1,x.2.2.2.1.2.2.2.1,x.2.2.2.1.2.2.2.2.1,x.2.2.2.1.2.2.2.2.2.1,x.2.2.2.1.2.2.2.2.2.2),x.2.2.2.2)) fun z=>
    ah z.1 (U (.inr (.inr (x.2.2.1,z.2.1,z.2.2)))) (U (.inl (x.1,x.2.1,IntKind.wrap .i64 (x.2.2.1+1),z.2.1,z.2.2)))))
    (U (.inr (.inl ((x.2.2.2.1.1,x.2.2.2.1.2.1,x.2.2.2.1.2.2.1,x.2.2.2.1.2.2.2.1,x.2.2.2.1.2.2.2.2.1,x.2.2.2.1.2.2.2.2.2.1,x.2.2.2.1.2.2.2.2.2.2),x.2.2.2.2))))))
  (fun k=>(s,(s.length:Int),(k:Int),(c0,c1,c2,c3,c4,c5,c6),i)) ((c0,c1,c2,c3,c4,c5,c6),i) (fun k=>((k:Int),(c0,c1,c2,c3,c4,c5,c6),i)) s.length (fun k=>bU c0 (s.getD k 0)=bU c0 i) (x0:=(s,(s.length:Int),0,(c0,c1,c2,c3,c4,c5,c6),i)) (k:=fun x=>U ((-1:Int),x.1,x.2)) rfl ?_ ?_
 ·rcases key with⟨h1,h2⟩|⟨k,h1,h2,h3⟩
  ·refine⟨ag,?_,iff_of_true rfl h1⟩;rw[nS h2];rfl
  ·refine⟨ad,?_,iff_of_false (by simp) fun h=>h k h1 h2⟩;rw[nS h3];simp
 ·simp only[bG,bm,aQ]
 ·intro k hk;have k1:(k:Int)<s.length:=by omega
  have k0:(0:Int)<=k:=by omega
  simp only[k1,k0,ay,aP,aC,aY]
  rw[ed 0 hk];have hq:=za7 (c0,c1,c2,c3,c4,c5,c6) (s.getD k 0) i hp;simp only at hq;rw[hq];simp only[av,aF]
  rw[wI (by omega) (by omega)];by_cases e:bU c0 (s.getD k 0)=bU c0 i
  ·rw[if_pos e];exact .inl ⟨e,rfl⟩
  ·rw[if_neg e];exact .inr ⟨e,rfl⟩
end Go.Proofs.YtdpapeledldifaaGreat
end
section
namespace Go.Stow
def qZ {α:Type}{l:List α}{i k:Nat}{d:α}(h:k<i):(l.take i).getD k d=l.getD k d:=by
 rw[List.getD_eq_getElem?_getD,List.getD_eq_getElem?_getD,List.getElem?_take,if_pos h]
end Go.Stow
namespace Go.Proofs.YtdpapeledldifaaGreat
open Go Go.AM Go.TM Go.Stow
def q83 (c:Cls)(hp:cj c.1)(hf:0<=c.2.1/\c.2.1<=255)(hl:c.2.2.2.2.1.length<=1048576)(hok:kV c.1):yb c=U (aa (fx c)):=by
 obtain⟨c0,c1,c2,c3,c4,c5,c6⟩:=c;obtain⟨hf0,hf1⟩:=hf;simp only at hp hf0 hf1 hl hok;have hH:fx (c0,c1,c2,c3,c4,c5,c6)↔(cO c0 c2/\cO c0 c3/\cg c0 c3≠cg c0 c2/\(0<=c1/\c1<=7)/\(∀i,i<c4.length->cO c0 (c4.getD i 0)/\∀k,k<i->cg c0 (c4.getD k 0)≠cg c0 (c4.getD i 0))/\¬(aO c1 2/\aO c1 4)/\(aO c1 1->aO c1 4/\cg c0 c3=[79,98,106])):=Iff.rfl;have z162:∀i,kP ((c0,c1,c2,c3,c4,c5,c6),i)=U (aa ((bb c0 i).1=2)):=fun i=>Dh (c0,c1,c2,c3,c4,c5,c6) i hp
 have z111:∀i,df ((c0,c1,c2,c3,c4,c5,c6),i)=U (bU c0 i):=fun i=>po (c0,c1,c2,c3,c4,c5,c6) i hp
 simp only[yb,z162,z111,av,bT,aF,eq_self,ay,ck,bp,aC,bQ]
 by_cases a1:(bb c0 c2).1=2
 ·rw[if_pos a1];have a1:=hok.cls.2 a1;by_cases a2:(bb c0 c3).1=2
  ·rw[if_pos a2];have a2:=hok.cls.2 a2;rw[pj a1,pj a2];by_cases a3:cg c0 c3=cg c0 c2
   ·rw[if_pos a3,aT];exact sd (by rw[hH];simp[a3])
   ·rw[if_neg a3,aJ];simp only
    refine i5 (fun i=>(c4,(c4.length:Int),(i:Int),c0,c1,c2,c3,c4,c5,c6)) (c0,c1,c2,c3,c4,c5,c6) ag c4.length (fun i=>(bb c0 (c4.getD i 0)).1=2/\∀k,k<i->bU c0 (c4.getD k 0)≠bU c0 (c4.getD i 0)) rfl ?_ ?_ ?_ ?_
    ·simp only[bG,if_false]
    ·intro i hi;have h1:(i:Int)<c4.length:=by omega
     have h0:(0:Int)<=i:=by omega
     have h2:(i:Int)<=c4.length:=by omega
     simp only[h1,h0,h2,if_true,ay,bp,aC,aY,List.drop_zero]
     rw[ed 0 hi];simp only[z162,av,aF,bT]
     by_cases b1:(bb c0 (c4.getD i 0)).1=2
     ·rw[if_pos b1];obtain⟨b,e,hb⟩:=za8 (c0,c1,c2,c3,c4,c5,c6) (c4.take i) (c4.getD i 0) hp (by simp only[cA];omega);rw[e];simp only[av]
      have hbi:b=ag↔∀k,k<i->bU c0 (c4.getD k 0)≠bU c0 (c4.getD i 0):=by
       rw[hb];simp only[cA,Nat.min_eq_left (Nat.le_of_lt hi)]
       exact⟨fun h k hk=>by have:=h k hk;rwa[qZ hk]at this,fun h k hk=>by rw[qZ hk];exact h k hk⟩
      cases b with
      | true=>
        exact .inr ⟨fun h=>(by cases hbi.2 h.2),rfl⟩
      | false=>
        refine .inl ⟨⟨b1,hbi.1 rfl⟩,?_⟩;simp only[aQ,aJ]
        rw[wI (by omega) (by omega)];rfl
     ·rw[if_neg b1];exact .inr ⟨fun h=>b1 h.1,rfl⟩
    ·intro hall
     have hall':∀i,i<c4.length->cO c0 (c4.getD i 0)/\∀k,k<i->cg c0 (c4.getD k 0)≠cg c0 (c4.getD i 0):=fun i hi=>
      ⟨hok.cls.2 (hall i hi).1,fun k hk=>by
       have:=(hall i hi).2 k hk
       rwa[pj (hok.cls.2 (hall i hi).1),pj (hok.cls.2 (hall k (by omega)).1)]at this⟩
     have hH':fx (c0,c1,c2,c3,c4,c5,c6)↔((0<=c1/\c1<=7)/\¬(aO c1 2/\aO c1 4)/\(aO c1 1->aO c1 4/\cg c0 c3=[79,98,106])):=by
      rw[hH];exact⟨fun h=>⟨h.2.2.2.1,h.2.2.2.2.2⟩,fun h=>⟨a1,a2,a3,h.1,hall',h.2⟩⟩
     simp only[eq_self,ay,aC,bQ,jr,av,za4 hf0 hf1,za5 hf0 hf1,Di (c0,c1,c2,c3,c4,c5,c6) ⟨hf0,hf1⟩,z111,Bool.not_not,bT,aF,pj a2]
     by_cases b0:0<=c1/\c1<=7
     ·rw[if_pos b0];by_cases b2:aO c1 2<;>by_cases b4:aO c1 4<;>by_cases b1:aO c1 1<;>simp only[b1,b2,b4,not_true,not_false_iff,if_true,if_false]<;>refine sd ?_<;>rw[hH']<;>simp[b0,b1,b2,b4]
     ·rw[if_neg b0];refine sd ?_;rw[hH'];simp[b0]
    ·intro hall;refine sd ?_;rw[hH];simp only[cS,false_iff]
     refine fun h=>hall fun i hi=>⟨(h.2.2.2.2.1 i hi).1.1,fun k hk=>?_⟩
     rw[pj (h.2.2.2.2.1 i hi).1,pj (h.2.2.2.2.1 k (by omega)).1];exact(h.2.2.2.2.1 i hi).2 k hk
  ·rw[if_neg a2,aT];exact sd (by rw[hH];simp only[cS,false_iff];exact fun h=>a2 h.2.1.1)
 ·rw[if_neg a1,aT];exact sd (by rw[hH];simp only[cS,false_iff];exact fun h=>a1 h.1.1)
def za9 (c:Cls)(hp:cj c.1)(hf:0<=c.2.1/\c.2.1<=255)(hl:c.2.2.2.2.2.1.length<=1048576):xq c=U (aa (jo c)):=by
 obtain⟨c0,c1,c2,c3,c4,c5,c6⟩:=c;obtain⟨hf0,hf1⟩:=hf;simp only at hp hf0 hf1 hl;simp only[xq,aF]
 refine i5 (fun i=>((i:Int),c0,c1,c2,c3,c4,c5,c6)) () ag c5.length (C7 (c0,c1,c2,c3,c4,c5,c6)) rfl ?_ ?_ ?_ ?_
 ·simp only[bG,if_false]
 ·intro i hi;have h1:(i:Int)<c5.length:=by omega
  have h0:(0:Int)<=i:=by omega
  simp only[h1,h0,if_true,ay,aC,aY]
  rw[ed (0,0,0) hi];have hF:C7 (c0,c1,c2,c3,c4,c5,c6) i↔(ch c0 (c5.getD i (0,0,0)).2.1 Nm/\ch c0 (c5.getD i (0,0,0)).2.2 Tok/\(0<=(c5.getD i (0,0,0)).1/\(c5.getD i (0,0,0)).1<=3)/\(aO c1 1->(c5.getD i (0,0,0)).1=1)/\∀k,k<i->bq c0 (c5.getD k (0,0,0)).2.1≠bq c0 (c5.getD i (0,0,0)).2.1):=Iff.rfl;rw[hF];generalize c5.getD i (0,0,0)=x;simp only[nR _ _ hp,qW _ (jP hp _),qX _ (jP hp _),i4,av,bT,aF]
  have t1:Nm (bq c0 x.2.1)↔ch c0 x.2.1 Nm:=nP C2;have t2:Tok (bq c0 x.2.2)↔ch c0 x.2.2 Tok:=nP t5;by_cases b1:Nm (bq c0 x.2.1)
  ·rw[if_pos b1];by_cases b2:Tok (bq c0 x.2.2)
   ·rw[if_pos b2];by_cases b3:0<=x.1/\x.1<=3
    ·rw[if_pos b3,aJ];simp only[kn hf0 hf1 (show(1:Int)<=1 by omega),av,aF]
     by_cases b4:aO c1 1->x.1=1
     ·rw[show(if aO c1 1 then if x.1=1 then U (Sum.inl ((i:Int),(c0,c1,c2,c3,c4,c5,c6),x.1,x.2.1,x.2.2))else U (Sum.inr (Sum.inr (Sum.inr (Sum.inr ag))))else U (Sum.inl ((i:Int),(c0,c1,c2,c3,c4,c5,c6),x.1,x.2.1,x.2.2)):Option ((Int×Cls×Int×Int×Int)⊕((Int×Cls)⊕((Int×Cls)⊕(Unit⊕Bool)))))=U (Sum.inl ((i:Int),(c0,c1,c2,c3,c4,c5,c6),x.1,x.2.1,x.2.2))by
       by_cases g:aO c1 1
       ·rw[if_pos g,if_pos (b4 g)]
       ·rw[if_neg g],aJ]
      simp only
      refine Dg (F:=(bindE · _)) (fun k=>((i:Int),(k:Int),(c0,c1,c2,c3,c4,c5,c6),x.1,x.2.1,x.2.2)) ((i:Int),c0,c1,c2,c3,c4,c5,c6) (.inr (.inr (.inr ag))) i (fun k=>bq c0 (c5.getD k (0,0,0)).2.1≠bq c0 x.2.1) rfl ?_ ?_ ?_ ?_ ?_
      ·simp only[bG,if_false]
      ·intro k hk;have k1:(k:Int)<i:=by omega
       have k0:(0:Int)<=k:=by omega
       have hkl:k<c5.length:=by omega
       simp only[k1,k0,if_true,ay,aC,aY]
       rw[ed (0,0,0) hkl];simp only[nR _ _ hp,av,eq_self,ay,aC,bQ]
       by_cases e:bq c0 (c5.getD k (0,0,0)).2.1=bq c0 x.2.1
       ·rw[if_pos e];exact .inr ⟨fun h=>h e,rfl⟩
       ·rw[if_neg e,wI (by omega) (by omega)];exact .inl ⟨e,rfl⟩
      ·exact⟨fun h=>h.2.2.2.2,fun h=>⟨t1.1 b1,t2.1 b2,b3,b4,h⟩⟩
      ·simp only[aJ]
       rw[wI (by omega) (by omega)];rfl
      ·rfl
     ·have g:aO c1 1:=Classical.byContradiction fun h=>b4 fun h'=>absurd h' h
      have g2:¬x.1=1:=fun h=>b4 fun _=>h
      rw[if_pos g,if_neg g2];exact .inr ⟨fun h=>g2 (h.2.2.2.1 g),rfl⟩
    ·rw[if_neg b3];exact .inr ⟨fun h=>b3 h.2.2.1,rfl⟩
   ·rw[if_neg b2];exact .inr ⟨fun h=>b2 (t2.2 h.2.1),rfl⟩
  ·rw[if_neg b1];exact .inr ⟨fun h=>b1 (t1.2 h.1),rfl⟩
 ·intro hall;exact sd (iff_of_true rfl hall)
 ·intro hall;exact sd (iff_of_false (by simp) hall)
end Go.Proofs.YtdpapeledldifaaGreat
end
section
namespace Go.Stow
def q_ (c:ClsP)(i:Nat):Prop :=
 let f:=c.2.2.2.2.2.1.getD i (0,0,0)
 ch c.1 f.2.1 Nm/\ch c.1 f.2.2 Tok/\(0<=f.1/\f.1<=3)/\(aO c.2.1 1->f.1=1)/\∀k,k<i->bU c.1 (c.2.2.2.2.2.1.getD k (0,0,0)).2.1≠bU c.1 f.2.1
noncomputable instance (c:ClsP)(i:Nat):Decidable (q_ c i):=Classical.propDecidable _
def zba (c:ClsP):(∀i,i<c.2.2.2.2.2.1.length->q_ c i)↔jo c:=by
 constructor
 ·intro h i hi;obtain⟨h1,h2,h3,h4,h5⟩:=h i hi;refine⟨h1,h2,h3,h4,fun k hk=>?_⟩;have hk':=h k (by omega);have:=h5 k hk;rwa[gx h1.1,gx hk'.1.1]at this
 ·intro h i hi;obtain⟨h1,h2,h3,h4,h5⟩:=h i hi;refine⟨h1,h2,h3,h4,fun k hk=>?_⟩;have hk':=h k (by omega);have:=h5 k hk;rwa[gx h1.1,gx hk'.1.1]
def re (c:ClsP)(i:Nat):Prop :=
 let m:=c.2.2.2.2.2.2.getD i aN
 ch c.1 m.2.1 Nm/\ch c.1 m.2.2.1 Dsc/\lG c m /\
 ∀k,k<i->¬(bU c.1 (c.2.2.2.2.2.2.getD k aN).2.1=bU c.1 m.2.1/\bU c.1 (c.2.2.2.2.2.2.getD k aN).2.2.1=bU c.1 m.2.2.1)
noncomputable instance (c:ClsP)(i:Nat):Decidable (re c i):=Classical.propDecidable _
def zbb (c:ClsP):(∀i,i<c.2.2.2.2.2.2.length->re c i)↔km c:=by
 constructor
 ·intro h i hi;obtain⟨h1,h2,h3,h5⟩:=h i hi;refine⟨h1,h2,h3,fun k hk=>?_⟩;have hk':=h k (by omega);have:=h5 k hk;rwa[gx h1.1,gx hk'.1.1,gx h2.1,gx hk'.2.1.1]at this
 ·intro h i hi;obtain⟨h1,h2,h3,h5⟩:=h i hi;refine⟨h1,h2,h3,fun k hk=>?_⟩;have hk':=h k (by omega);have:=h5 k hk;rwa[gx h1.1,gx hk'.1.1,gx h2.1,gx hk'.2.1.1]
end Go.Stow
namespace Go.Proofs.YtdpapeledldifaaGreat
open Go Go.AM Go.TM Go.Stow
def zbc (c:Cls)(g f:Fld)(hp:cj c.1):tM (g,c,f)=U (aa (bU c.1 g.2.1=bU c.1 f.2.1),c,f):=by
 obtain⟨c0,c1,c2,c3,c4,c5,c6⟩:=c;obtain⟨g0,g1,g2⟩:=g;obtain⟨f0,f1,f2⟩:=f;have z111:∀i,df ((c0,c1,c2,c3,c4,c5,c6),i)=U (bU c0 i):=fun i=>po (c0,c1,c2,c3,c4,c5,c6) i hp
 simp only[tM,z111,av,eq_self,ay,ck,bp,aC,bQ]
def zbd (c:Cls)(s:List Fld)(f:Fld)(hp:cj c.1)(hl:s.length<=1048576):∃b,yc (s,c,f)=U (b,c,f)/\(b=ag↔∀k,k<s.length->bU c.1 (s.getD k (0,0,0)).2.1≠bU c.1 f.2.1):=by
 obtain⟨c0,c1,c2,c3,c4,c5,c6⟩:=c;obtain⟨f0,f1,f2⟩:=f;simp only[yc,Cu]
 have key:=yQ (f:=(fun(x:List Fld×Int×Int×Cls×Fld)=>ah (aa (x.2.2.1<x.2.1))
    (af (aa (0<=x.2.2.1)) (aq x.1 (aH x.2.2.1) fun y=>ai (tM ((y.1,y.2.1,y.2.2),(x.2.2.2.1.1,x.2.2.2.1.2.1,x.2.2.2.1.2.2.1,x.2.2.2.1.2.2.2.1,x.2.2.2.1.2.2.2.2.1,x.2.2.2.1.2.2.2.2.2.1,x.2.2.2.1.2.2.2.2.2.2),x.2.2.2.2.1,x.2.2.2.2.2.1,x.2.2.2.2.2.2)) fun z=>
    ah z.1 (U (.inr (.inr (x.2.2.1,z.2.1,z.2.2)))) (U (.inl (x.1,x.2.1,IntKind.wrap .i64 (x.2.2.1+1),z.2.1,z.2.2)))))
    (U (.inr (.inl ((x.2.2.2.1.1,x.2.2.2.1.2.1,x.2.2.2.1.2.2.1,x.2.2.2.1.2.2.2.1,x.2.2.2.1.2.2.2.2.1,x.2.2.2.1.2.2.2.2.2.1,x.2.2.2.1.2.2.2.2.2.2),x.2.2.2.2.1,x.2.2.2.2.2.1,x.2.2.2.2.2.2))))))
  (fun k=>(s,(s.length:Int),(k:Int),(c0,c1,c2,c3,c4,c5,c6),f0,f1,f2)) ((c0,c1,c2,c3,c4,c5,c6),f0,f1,f2) (fun k=>((k:Int),(c0,c1,c2,c3,c4,c5,c6),f0,f1,f2)) s.length (fun k=>bU c0 (s.getD k (0,0,0)).2.1=bU c0 f1) (x0:=(s,(s.length:Int),0,(c0,c1,c2,c3,c4,c5,c6),f0,f1,f2)) (k:=fun x=>U ((-1:Int),x.1,x.2)) rfl ?_ ?_
 ·rcases key with⟨h1,h2⟩|⟨k,h1,h2,h3⟩
  ·refine⟨ag,?_,iff_of_true rfl h1⟩;rw[nS h2];rfl
  ·refine⟨ad,?_,iff_of_false (by simp) fun h=>h k h1 h2⟩;rw[nS h3];simp
 ·simp only[bG,bm,aQ]
 ·intro k hk;have k1:(k:Int)<s.length:=by omega
  have k0:(0:Int)<=k:=by omega
  simp only[k1,k0,ay,aP,aC,aY]
  rw[ed (0,0,0) hk];have hq:=zbc (c0,c1,c2,c3,c4,c5,c6) (s.getD k (0,0,0)) (f0,f1,f2) hp;simp only at hq;refine(show _=_/\_\/_ from ?_);rw[hq];simp only[av,aF]
  rw[wI (by omega) (by omega)];by_cases e:bU c0 (s.getD k (0,0,0)).2.1=bU c0 f1
  ·rw[if_pos e];exact .inl ⟨e,rfl⟩
  ·rw[if_neg e];exact .inr ⟨e,rfl⟩
def q84 (c:Cls)(i:Nat)(hp:cj c.1)(hf:0<=c.2.1/\c.2.1<=255)(hl:c.2.2.2.2.2.1.length<=1048576)(hi:i<c.2.2.2.2.2.1.length):yd (c,(i:Int))=U (aa (q_ c i)):=by
 obtain⟨c0,c1,c2,c3,c4,c5,c6⟩:=c;obtain⟨hf0,hf1⟩:=hf;simp only at hp hf0 hf1 hl hi;have h0:(0:Int)<=i:=by omega
 have h2:(i:Int)<=c5.length:=by omega
 have hF:q_ (c0,c1,c2,c3,c4,c5,c6) i↔(ch c0 (c5.getD i (0,0,0)).2.1 Nm/\ch c0 (c5.getD i (0,0,0)).2.2 Tok/\(0<=(c5.getD i (0,0,0)).1/\(c5.getD i (0,0,0)).1<=3)/\(aO c1 1->(c5.getD i (0,0,0)).1=1)/\∀k,k<i->bU c0 (c5.getD k (0,0,0)).2.1≠bU c0 (c5.getD i (0,0,0)).2.1):=Iff.rfl;simp only[yd,h0,h2,ay,bp,aC,aY]
 rw[ed (0,0,0) hi];generalize c5.getD i (0,0,0)=x at hF ⊢;simp only[yP _ _ hp,Ka _ _ hp,jr,Di (c0,c1,c2,c3,c4,c5,c6) ⟨hf0,hf1⟩,av,bT,aF]
 by_cases b1:ch c0 x.2.1 Nm
 ·rw[if_pos b1];by_cases b2:ch c0 x.2.2 Tok
  ·rw[if_pos b2];by_cases b3:0<=x.1/\x.1<=3
   ·rw[if_pos b3];by_cases b4:aO c1 1->x.1=1
    ·rw[show(if aO c1 1 then if x.1=1 then U (Sum.inl ((i:Int),(c0,c1,c2,c3,c4,c5,c6),x.1,x.2.1,x.2.2))else U (Sum.inr ag)else U (Sum.inl ((i:Int),(c0,c1,c2,c3,c4,c5,c6),x.1,x.2.1,x.2.2)):Option ((Int×Cls×Int×Int×Int)⊕Bool))=U (Sum.inl ((i:Int),(c0,c1,c2,c3,c4,c5,c6),x.1,x.2.1,x.2.2))by
      by_cases g:aO c1 1
      ·rw[if_pos g,if_pos (b4 g)]
      ·rw[if_neg g],aJ]
     obtain⟨b,e,hb⟩:=zbd (c0,c1,c2,c3,c4,c5,c6) (c5.take i) x hp (by simp only[cA];omega);obtain⟨x0,x1,x2⟩:=x;simp only[h0,h2,ay,bp,aC,aY,List.drop_zero]
     rw[e];simp only[av]
     have hbi:b=ag↔∀k,k<i->bU c0 (c5.getD k (0,0,0)).2.1≠bU c0 x1:=by
      rw[hb];simp only[cA,Nat.min_eq_left (Nat.le_of_lt hi)]
      exact⟨fun h k hk=>by have:=h k hk;rwa[qZ hk]at this,fun h k hk=>by rw[qZ hk];exact h k hk⟩
     refine sd ?_;rw[hF];simp only[Bool.not_eq_true',hbi]
     exact⟨fun h=>⟨b1,b2,b3,b4,h⟩,fun h=>h.2.2.2.2⟩
    ·have g:aO c1 1:=Classical.byContradiction fun h=>b4 fun h'=>absurd h' h
     have g2:¬x.1=1:=fun h=>b4 fun _=>h
     rw[if_pos g,if_neg g2,aT];exact sd (by rw[hF];exact iff_of_false (by simp) fun h=>b4 h.2.2.2.1)
   ·rw[if_neg b3,aT];exact sd (by rw[hF];exact iff_of_false (by simp) fun h=>b3 h.2.2.1)
  ·rw[if_neg b2,aT];exact sd (by rw[hF];exact iff_of_false (by simp) fun h=>b2 h.2.1)
 ·rw[if_neg b1,aT];exact sd (by rw[hF];exact iff_of_false (by simp) fun h=>b1 h.1)
def zbe (c:Cls)(m:Mth)(hp:cj c.1)(hf:0<=c.2.1/\c.2.1<=255)(hm:0<=m.1/\m.1<=255):th (c,m)=U (aa (lG c m)):=by
 obtain⟨c0,c1,c2,c3,c4,c5,c6⟩:=c;obtain⟨m0,m1,m2,m3,m4,m5,m6,m7⟩:=m;obtain⟨hf0,hf1⟩:=hf;obtain⟨hm0,hm1⟩:=hm;simp only at hp hf0 hf1 hm0 hm1;have hF:lG (c0,c1,c2,c3,c4,c5,c6) (m0,m1,m2,m3,m4,m5,m6,m7)↔((0<=m0/\m0<=15)/\(bq c0 m1=[98,101,103,105,110]->m0=1/\bq c0 m2=[40,41,86])/\(aO m0 8->m0=8/\aO c1 4)/\(¬aO m0 8->aO c1 1->m0=1)):=Iff.rfl;simp only[th,nR _ _ hp,i4,av,bT,aF]
 by_cases b1:0<=m0/\m0<=15
 ·rw[if_pos b1];have e8:=kn hm0 hm1 (show(1:Int)<=8 by omega);have e4:=kn hf0 hf1 (show(1:Int)<=4 by omega);have e1:=kn hf0 hf1 (show(1:Int)<=1 by omega)
  have go:(bq c0 m1=[98,101,103,105,110]->m0=1/\bq c0 m2=[40,41,86])->(if aO m0 8 then if m0=8 then U (aa (aO c1 4))else U ag else if aO c1 1 then U (aa (m0=1))else U ad:Option Bool)=U (aa (lG (c0,c1,c2,c3,c4,c5,c6) (m0,m1,m2,m3,m4,m5,m6,m7))):=by
   intro b2;by_cases b5:aO m0 8
   ·rw[if_pos b5];by_cases b8:m0=8
    ·rw[if_pos b8];refine sd ?_;rw[hF,decide_eq_true_iff];exact⟨fun h=>⟨b1,b2,fun _=>⟨b8,h⟩,fun h=>absurd b5 h⟩,fun h=>(h.2.2.1 b5).2⟩
    ·rw[if_neg b8];exact sd (by rw[hF];exact iff_of_false (by simp) fun h=>b8 (h.2.2.1 b5).1)
   ·rw[if_neg b5];by_cases b7:aO c1 1
    ·rw[if_pos b7];refine sd ?_;rw[hF,decide_eq_true_iff];exact⟨fun h=>⟨b1,b2,fun h'=>absurd h' b5,fun _ _=>h⟩,fun h=>h.2.2.2 b5 b7⟩
    ·rw[if_neg b7];exact sd (by rw[hF];exact iff_of_true rfl ⟨b1,b2,fun h'=>absurd h' b5,fun _ h=>absurd h b7⟩)
  by_cases b2:bq c0 m1=[98,101,103,105,110]
  ·rw[if_pos b2];by_cases b3:m0=1
   ·rw[if_pos b3];by_cases b4:bq c0 m2=[40,41,86]
    ·rw[if_pos b4,aJ];simp only[e8,e4,e1,av,aF]
     exact go fun _=>⟨b3,b4⟩
    ·rw[if_neg b4,aT];exact sd (by rw[hF];exact iff_of_false (by simp) fun h=>b4 (h.2.1 b2).2)
   ·rw[if_neg b3,aT];exact sd (by rw[hF];exact iff_of_false (by simp) fun h=>b3 (h.2.1 b2).1)
  ·rw[if_neg b2,aJ];simp only[e8,e4,e1,av,aF]
   exact go fun h=>absurd h b2
 ·rw[if_neg b1];exact sd (by rw[hF];exact iff_of_false (by simp) fun h=>b1 h.1)
def zbf (c:Cls)(hp:cj c.1)(hf:0<=c.2.1/\c.2.1<=255)(hl:c.2.2.2.2.2.2.length<=1048576)(hm:∀ m∈c.2.2.2.2.2.2,0<=m.1/\m.1<=255):xr c=U (aa (km c)):=by
 obtain⟨c0,c1,c2,c3,c4,c5,c6⟩:=c;simp only at hp hl hm;simp only[xr,aF]
 refine i5 (fun i=>((i:Int),c0,c1,c2,c3,c4,c5,c6)) () ag c6.length (yJ (c0,c1,c2,c3,c4,c5,c6)) rfl ?_ ?_ ?_ ?_
 ·simp only[bG,if_false]
 ·intro i hi;have h1:(i:Int)<c6.length:=by omega
  have h0:(0:Int)<=i:=by omega
  have hmi:0<=(c6.getD i aN).1/\(c6.getD i aN).1<=255:=by
   rw[List.getD_eq_getElem?_getD,bt hi];exact hm _ (List.getElem_mem hi)
  simp only[h1,h0,if_true,ay,aC,aY]
  rw[ed aN hi]
  have hF:yJ (c0,c1,c2,c3,c4,c5,c6) i↔(ch c0 (c6.getD i aN).2.1 Nm/\ch c0 (c6.getD i aN).2.2.1 Dsc/\lG (c0,c1,c2,c3,c4,c5,c6) (c6.getD i aN) /\
   ∀k,k<i->¬(bq c0 (c6.getD k aN).2.1=bq c0 (c6.getD i aN).2.1/\bq c0 (c6.getD k aN).2.2.1=bq c0 (c6.getD i aN).2.2.1)):=Iff.rfl
  rw[hF];generalize c6.getD i aN=x at hmi;have z244:th ((c0,c1,c2,c3,c4,c5,c6),x.1,x.2.1,x.2.2.1,x.2.2.2.1,x.2.2.2.2.1,x.2.2.2.2.2.1,x.2.2.2.2.2.2.1,x.2.2.2.2.2.2.2)=U (aa (lG (c0,c1,c2,c3,c4,c5,c6) x)):=zbe (c0,c1,c2,c3,c4,c5,c6) x hp hf hmi;simp only[nR _ _ hp,qW _ (jP hp _),yN _ (jP hp _),z244,av,bT,aF]
  have t1:Nm (bq c0 x.2.1)↔ch c0 x.2.1 Nm:=nP C2;have t2:Dsc (bq c0 x.2.2.1)↔ch c0 x.2.2.1 Dsc:=nP C5;by_cases b1:Nm (bq c0 x.2.1)
  ·rw[if_pos b1];by_cases b2:Dsc (bq c0 x.2.2.1)
   ·rw[if_pos b2];by_cases b3:lG (c0,c1,c2,c3,c4,c5,c6) x
    ·rw[if_pos b3,aJ];simp only
     refine Dg (F:=(bindE · _)) (fun k=>((i:Int),(k:Int),(c0,c1,c2,c3,c4,c5,c6),x.1,x.2.1,x.2.2.1,x.2.2.2.1,x.2.2.2.2.1,x.2.2.2.2.2.1,x.2.2.2.2.2.2.1,x.2.2.2.2.2.2.2)) ((i:Int),c0,c1,c2,c3,c4,c5,c6) (.inr (.inr (.inr ag))) i (fun k=>¬(bq c0 (c6.getD k aN).2.1=bq c0 x.2.1/\bq c0 (c6.getD k aN).2.2.1=bq c0 x.2.2.1)) rfl ?_ ?_ ?_ ?_ ?_
     ·simp only[bG,if_false]
     ·intro k hk;have k1:(k:Int)<i:=by omega
      have k0:(0:Int)<=k:=by omega
      have hkl:k<c6.length:=by omega
      simp only[k1,k0,if_true,ay,aC,aY]
      rw[ed aN hkl];simp only[ed aN hkl,nR _ _ hp,av,eq_self,ay,aC,bQ]
      by_cases e:bq c0 (c6.getD k aN).2.1=bq c0 x.2.1
      ·rw[if_pos e];by_cases e2:bq c0 (c6.getD k aN).2.2.1=bq c0 x.2.2.1
       ·rw[if_pos e2,aT];exact .inr ⟨fun h=>h ⟨e,e2⟩,rfl⟩
       ·rw[if_neg e2,aJ];simp only
        rw[wI (by omega) (by omega)];exact .inl ⟨fun h=>e2 h.2,rfl⟩
      ·rw[if_neg e,aJ];simp only
       rw[wI (by omega) (by omega)];exact .inl ⟨fun h=>e h.1,rfl⟩
     ·exact⟨fun h=>h.2.2.2,fun h=>⟨t1.1 b1,t2.1 b2,b3,h⟩⟩
     ·simp only[aJ]
      rw[wI (by omega) (by omega)];rfl
     ·rfl
    ·rw[if_neg b3];exact .inr ⟨fun h=>b3 h.2.2.1,rfl⟩
   ·rw[if_neg b2];exact .inr ⟨fun h=>b2 (t2.2 h.2.1),rfl⟩
  ·rw[if_neg b1];exact .inr ⟨fun h=>b1 (t1.2 h.1),rfl⟩
 ·intro hall;exact sd (iff_of_true rfl hall)
 ·intro hall;exact sd (iff_of_false (by simp) hall)
end Go.Proofs.YtdpapeledldifaaGreat
end
section
namespace Go.TM
def zVR {R:Type}(a:Option R):cm a a=a:=by unfold cm;rw[if_pos rfl]
end Go.TM
namespace Go.Proofs.YtdpapeledldifaaGreat
open Go Go.AM Go.TM Go.Stow
def zbg (c:Cls)(g:Mth)(a b:List UInt8)(hp:cj c.1):tN (g,c,a,b)=U (aa (bU c.1 g.2.1=a/\bU c.1 g.2.2.1=b),c,a,b):=by
 obtain⟨c0,c1,c2,c3,c4,c5,c6⟩:=c;obtain⟨g0,g1,g2,g3,g4,g5,g6,g7⟩:=g;have z111:∀i,df ((c0,c1,c2,c3,c4,c5,c6),i)=U (bU c0 i):=fun i=>po (c0,c1,c2,c3,c4,c5,c6) i hp
 simp only[tN,z111,av,eq_self,ay,aC,bQ,aF]
 by_cases e:bU c0 g1=a
 ·rw[if_pos e];simp[e]
 ·rw[if_neg e];simp[e]
def zbh (c:Cls)(s:List Mth)(a b:List UInt8)(hp:cj c.1)(hl:s.length<=1048576):∃r,ye (s,c,a,b)=U (r,c,a,b)/\(r=ag↔∀k,k<s.length->¬(bU c.1 (s.getD k aN).2.1=a/\bU c.1 (s.getD k aN).2.2.1=b)):=by
 obtain⟨c0,c1,c2,c3,c4,c5,c6⟩:=c;simp only[ye,Cv]
 have key:=yQ (f:=(fun(x:List Mth×Int×Int×Cls×List UInt8×List UInt8)=>ah (aa (x.2.2.1<x.2.1))
    (af (aa (0<=x.2.2.1)) (aq x.1 (aH x.2.2.1) fun y=>ai (tN ((y.1,y.2.1,y.2.2.1,y.2.2.2.1,y.2.2.2.2.1,y.2.2.2.2.2.1,y.2.2.2.2.2.2.1,y.2.2.2.2.2.2.2),(x.2.2.2.1.1,x.2.2.2.1.2.1,x.2.2.2.1.2.2.1,x.2.2.2.1.2.2.2.1,x.2.2.2.1.2.2.2.2.1,x.2.2.2.1.2.2.2.2.2.1,x.2.2.2.1.2.2.2.2.2.2),x.2.2.2.2.1,x.2.2.2.2.2)) fun z=>
    ah z.1 (U (.inr (.inr (x.2.2.1,z.2.1,z.2.2)))) (U (.inl (x.1,x.2.1,IntKind.wrap .i64 (x.2.2.1+1),z.2.1,z.2.2)))))
    (U (.inr (.inl ((x.2.2.2.1.1,x.2.2.2.1.2.1,x.2.2.2.1.2.2.1,x.2.2.2.1.2.2.2.1,x.2.2.2.1.2.2.2.2.1,x.2.2.2.1.2.2.2.2.2.1,x.2.2.2.1.2.2.2.2.2.2),x.2.2.2.2.1,x.2.2.2.2.2))))))
  (fun k=>(s,(s.length:Int),(k:Int),(c0,c1,c2,c3,c4,c5,c6),a,b)) ((c0,c1,c2,c3,c4,c5,c6),a,b) (fun k=>((k:Int),(c0,c1,c2,c3,c4,c5,c6),a,b)) s.length (fun k=>bU c0 (s.getD k aN).2.1=a/\bU c0 (s.getD k aN).2.2.1=b) (x0:=(s,(s.length:Int),0,(c0,c1,c2,c3,c4,c5,c6),a,b)) (k:=fun x=>U ((-1:Int),x.1,x.2)) rfl ?_ ?_
 ·rcases key with⟨h1,h2⟩|⟨k,h1,h2,h3⟩
  ·refine⟨ag,?_,iff_of_true rfl h1⟩;rw[nS h2];rfl
  ·refine⟨ad,?_,iff_of_false (by simp) fun h=>h k h1 h2⟩;rw[nS h3];simp
 ·simp only[bG,bm,aQ]
 ·intro k hk;have k1:(k:Int)<s.length:=by omega
  have k0:(0:Int)<=k:=by omega
  simp only[k1,k0,ay,aP,aC,aY]
  rw[ed aN hk];have hq:=zbg (c0,c1,c2,c3,c4,c5,c6) (s.getD k aN) a b hp;refine(show(_/\_)/\_=_\/_ from ?_);rw[show(((s.getD k aN).1,(s.getD k aN).2.1,(s.getD k aN).2.2.1,(s.getD k aN).2.2.2.1,(s.getD k aN).2.2.2.2.1,(s.getD k aN).2.2.2.2.2.1,(s.getD k aN).2.2.2.2.2.2.1,(s.getD k aN).2.2.2.2.2.2.2):Mth)=s.getD k aN from rfl];rw[hq];simp only[av,aF]
  rw[wI (by omega) (by omega)];by_cases e:bU c0 (s.getD k aN).2.1=a/\bU c0 (s.getD k aN).2.2.1=b
  ·rw[if_pos e];exact .inl ⟨e,rfl⟩
  ·rw[if_neg e];exact .inr ⟨e,rfl⟩
def Dj (f:Int)(h0:0<=f)(h1:f<=255):kf f=U (aa (aO f 8)):=by
 simp only[kf,za2 h0 h1,Bool.not_not]
def q85 (c:Cls)(i:Nat)(hp:cj c.1)(hf:0<=c.2.1/\c.2.1<=255)(hl:c.2.2.2.2.2.2.length<=1048576)(hm:∀ m∈c.2.2.2.2.2.2,0<=m.1/\m.1<=255)(hi:i<c.2.2.2.2.2.2.length):yf (c,(i:Int))=U (aa (re c i)):=by
 obtain⟨c0,c1,c2,c3,c4,c5,c6⟩:=c;obtain⟨hf0,hf1⟩:=hf;simp only at hp hf0 hf1 hl hm hi;have h0:(0:Int)<=i:=by omega
 have h2:(i:Int)<=c6.length:=by omega
 have hmi:0<=(c6.getD i aN).1/\(c6.getD i aN).1<=255:=by
  rw[List.getD_eq_getElem?_getD,bt hi];exact hm _ (List.getElem_mem hi)
 have hF:re (c0,c1,c2,c3,c4,c5,c6) i↔(ch c0 (c6.getD i aN).2.1 Nm/\ch c0 (c6.getD i aN).2.2.1 Dsc/\((0<=(c6.getD i aN).1/\(c6.getD i aN).1<=15)/\(bq c0 (c6.getD i aN).2.1=[98,101,103,105,110]->(c6.getD i aN).1=1/\bq c0 (c6.getD i aN).2.2.1=[40,41,86])/\(aO (c6.getD i aN).1 8->(c6.getD i aN).1=8/\aO c1 4)/\(¬aO (c6.getD i aN).1 8->aO c1 1->(c6.getD i aN).1=1)) /\
   ∀k,k<i->¬(bU c0 (c6.getD k aN).2.1=bU c0 (c6.getD i aN).2.1/\bU c0 (c6.getD k aN).2.2.1=bU c0 (c6.getD i aN).2.2.1)):=Iff.rfl
 simp only[yf,h0,ay,aC,aY]
 rw[ed aN hi];generalize c6.getD i aN=x at hF hmi ⊢;obtain⟨x0,x1,x2,x3,x4,x5,x6,x7⟩:=x;obtain⟨hm0,hm1⟩:=hmi;simp only at hF hm0 hm1;simp only[yP _ _ hp,Kb _ _ hp,jr,av,bT]
 have z111:∀i,df ((c0,c1,c2,c3,c4,c5,c6),i)=U (bU c0 i):=fun i=>po (c0,c1,c2,c3,c4,c5,c6) i hp
 have z165:pb (c0,c1,c2,c3,c4,c5,c6)=U (aa (aO c1 1)):=Di (c0,c1,c2,c3,c4,c5,c6) ⟨hf0,hf1⟩;have z86:=Dj x0 hm0 hm1;by_cases b1:ch c0 x1 Nm
 ·rw[decide_eq_true b1,aP];by_cases b2:ch c0 x2 Dsc
  ·rw[decide_eq_true b2,aP];by_cases b3:0<=x0/\x0<=15
   ·rw[decide_eq_true b3,aP,aJ];simp only[z111,av,eq_self,ay,ck,bp,aC,bQ,zVR]
    rw[gx b1.1,gx b2.1]
    cases d5:aa (aO x0 8)<;>cases d8:aa (x0=8)<;>cases d6:aa (aO c1 4)<;>cases d7:aa (aO c1 1)<;>cases d9:aa (x0=1) <;>
     simp only[z86,z165,av,d5,d8,d7,d9,Kg hf0 hf1,d6,aP,aQ,Bool.not_true,Bool.not_false,aJ,aT]
    all_goals simp only[aI,bN]at d5 d6 d7 d8 d9
    all_goals first
     |(refine sd ?_
       rw[hF];refine iff_of_false (by simp) fun h=>?_
       obtain⟨_,_,⟨_,_,k1,k2⟩,_⟩:=h
       first
        |exact d8 (k1 d5).1
        |exact d6 (k1 d5).2
        |exact d9 (k2 d5 d7))
     |skip
    all_goals
     have e1:aO x0 8->x0=8/\aO c1 4:=fun h=>by first|exact⟨d8,d6⟩|exact absurd h d5
     have e2:¬aO x0 8->aO c1 1->x0=1:=fun h h'=>by first|exact d9|exact absurd h' d7|exact absurd d5 h
     have k2:=d9;clear d5 d6 d7 d8 d9;cases k1:aa (bq c0 x1=[98,101,103,105,110])<;>cases k3:aa (bq c0 x2=[40,41,86])<;>simp only[k1,k3,Bool.not_true,Bool.not_false,aP,aQ,aJ,aT]
     all_goals simp only[aI,bN]at k1 k3
     all_goals first
      |(refine sd ?_
        rw[hF];refine iff_of_false (by simp) fun h=>?_
        obtain⟨_,_,⟨_,g1,_,_⟩,_⟩:=h
        first
         |exact k2 (g1 k1).1
         |exact k3 (g1 k1).2)
      |skip
     all_goals
      have e3:bq c0 x1=[98,101,103,105,110]->x0=1/\bq c0 x2=[40,41,86]:=fun h=>by first|exact⟨k2,k3⟩|exact absurd h k1
      clear k1 k2 k3;obtain⟨b,e,hb⟩:=zbh (c0,c1,c2,c3,c4,c5,c6) (c6.take i) (bq c0 x1) (bq c0 x2) hp (by simp only[cA];omega);simp only[h0,h2,ay,bp,aC,aY,List.drop_zero]
      rw[e];simp only[av]
      refine sd ?_;rw[hF,gx b1.1,gx b2.1]
      have hbi:b=ag↔∀k,k<i->¬(bU c0 (c6.getD k aN).2.1=bq c0 x1/\bU c0 (c6.getD k aN).2.2.1=bq c0 x2):=by
       rw[hb];simp only[cA,Nat.min_eq_left (Nat.le_of_lt hi)]
       exact⟨fun h k hk=>by have:=h k hk;rwa[qZ hk]at this,fun h k hk=>by rw[qZ hk];exact h k hk⟩
      rw[Bool.not_eq_true',hbi];exact⟨fun h=>⟨b1,b2,⟨b3,e3,e1,e2⟩,h⟩,fun h=>h.2.2.2⟩
   ·rw[decide_eq_false b3,aQ,aT];exact sd (by rw[hF];exact iff_of_false (by simp) fun h=>b3 h.2.2.1.1)
  ·rw[decide_eq_false b2,aQ,aT];exact sd (by rw[hF];exact iff_of_false (by simp) fun h=>b2 h.2.1)
 ·rw[decide_eq_false b1,aQ,aT];exact sd (by rw[hF];exact iff_of_false (by simp) fun h=>b1 h.1)
end Go.Proofs.YtdpapeledldifaaGreat
end
section
namespace Go.Stow
def Dk (op:Int) : -1<=a_ op/\a_ op<=2:=by unfold a_;repeat' split<;>omega
end Go.Stow
namespace Go.Proofs.YtdpapeledldifaaGreat
open Go Go.AM Go.TM Go.Stow
def Kh (op:Int):lC op=U (a_ op):=by
 simp only[lC,i4,av,aF,eg,aJ,aT]
 unfold a_
 repeat' split
 all_goals first|rfl|(exfalso;omega)
def t9 (op:Int):qL op=U (a_ op):=by
 simp only[qL,jr,av,aF,aP,eg,aJ,aT]
 unfold a_
 repeat' split
 all_goals first|rfl|(exfalso;omega)
def zbi (s:List UInt8)(op:Int)(hs:s.length<=2):tj (s,op)=U (iD op s):=by
 match s,hs with
 |[],_=>rfl
 | [a],_=>
   have ha:=a.toNat_lt;have e0:∀k:UInt8->Option Int,aq [a] 0 k=k a:=fun k=>rfl
   simp (discharger:=omega) only[tj,bD,cW,e0,wI,aF,eg,aJ,iD]
   rw[if_neg (by omega),if_neg (by omega)];rw[if_neg (show ¬(32768:Int)<=(a.toNat:Int)by omega)];split<;>rfl
 | [a,b],_=>
   have ha:=a.toNat_lt;have hb:=b.toNat_lt;have e0:∀k:UInt8->Option Int,aq [a,b] 0 k=k a:=fun k=>rfl
   have e1:∀k:UInt8->Option (Int×Int⊕Int),aq [a,b] 1 k=k b:=fun k=>rfl
   simp (discharger:=omega) only[tj,bD,cW,e0,e1,wI,aF,eg,aJ,iD]
   rw[if_neg (by omega),if_pos (by omega)];by_cases h1:op=1
   ·rw[if_pos h1];by_cases h2:(32768:Int)<=(a.toNat:Int)*256+(b.toNat:Int)
    ·rw[if_pos h2,if_pos ⟨h1,h2⟩]
    ·rw[if_neg h2,if_neg fun h=>h2 h.2]
   ·rw[if_neg h1,if_neg fun h=>h1 h.1]
def Ki {X Y R:Type}{f:X->Option (X⊕(Y⊕R))}{k:Y->Option R}(s:List UInt8)(mk:List InsP->Nat->X)(bad:R)(good:List InsP->R)
  (hend:∀out,out.length<=s.length->bindE (aD f (mk out s.length)) k=U (good out))
  (hbad:∀out a (h:a<s.length),out.length<=a->(a_ s[a].toNat<0\/((s.drop (a+1)).length:Int)<a_ s[a].toNat)->bindE (aD f (mk out a)) k=U bad)
  (hstep:∀out a (h:a<s.length) (n:Nat),out.length<=a->a_ s[a].toNat=n->n<=(s.drop (a+1)).length->f (mk out a)=U (.inl (mk (out++[((a:Int),(s[a].toNat:Int),iD s[a].toNat ((s.drop (a+1)).take n))]) (a+1+n)))) :
  ∀(m a:Nat) (out:List InsP),s.length-a<=m->a<=s.length->out.length<=a->bindE (aD f (mk out a)) k=U (match d_ m (a:Int) (s.drop a)with|some r=>good (out++r)|none=>bad):=by
 intro m
 induction m with
 | zero=>
   intro a out hm ha ho;have:a=s.length:=by omega
   subst this;rw[hend out ho,List.drop_eq_nil_of_le (bI _)];simp only[d_,cN]
 | succ m ih=>
   intro a out hm ha ho;by_cases h:a<s.length
   ·rw[kg h];simp only[d_]
    by_cases hb:a_ s[a].toNat<0\/((s.drop (a+1)).length:Int)<a_ s[a].toNat
    ·rw[if_pos hb,hbad out a h ho hb]
    ·rw[if_neg hb];have hn:a_ s[a].toNat=((a_ s[a].toNat).toNat:Int):=by omega
     generalize (a_ s[a].toNat).toNat=n at hn;have hle:n<=(s.drop (a+1)).length:=by omega
     have hd:(s.drop (a+1)).drop n=s.drop (a+1+n):=by rw[List.drop_drop]
     have hlen:a+1+n<=s.length:=by simp only[dF]at hle;omega
     rw[nQ (hstep out a h n ho hn hle),ih (a+1+n) _ (by omega) hlen (by simp only[aR,bD,cW];omega),hn,hd];rw[show(((a+1+n:Nat)):Int)=(a:Int)+1+n by omega];cases d_ m ((a:Int)+1+n) (s.drop (a+1+n))with
     |none=>rfl
     |some q=>simp only[Option.map_some,b_,List.singleton_append]
   ·have:a=s.length:=by omega
    subst this;rw[hend out ho,List.drop_eq_nil_of_le (bI _)];simp only[d_,cN]
def Kj (s:List UInt8)(hs:s.length<=1048576):tk s=U (bx s):=by
 simp only[tk,aF]
 refine(Ki s (fun out a=>(s,out,(a:Int))) ([],ag) (fun r=>(r,aa ((0:Int)<r.length))) ?_ ?_ ?_ s.length 0 [] (by omega) (by omega) (by simp)).trans ?_
 ·intro out ho;rw[iF (y:=.inl out) (by simp only[bG,if_false]),aJ]
 ·intro out a h ho hb;have h1:(a:Int)<s.length:=by omega
  have h0:(0:Int)<=a:=by omega
  have hr:=s[a].toNat_lt;rw[iF (y:=.inr ([],ag)),aT];simp (discharger:=omega) only[h1,h0,if_true,ay,aC,aY,bE,wI,Kh,av]
  by_cases h2:a_ s[a].toNat<0
  ·rw[if_pos h2,aT]
  ·have h3:=(Dk s[a].toNat).2
   have h4:(s.length:Int)<(a:Int)+1+a_ s[a].toNat:=by
    have:=hb.resolve_left h2;simp only[dF]at this;omega
   rw[if_neg h2,wI (by omega) (by omega),if_pos h4,aT]
 ·intro out a h n ho hn hle;have h1:(a:Int)<s.length:=by omega
  have h0:(0:Int)<=a:=by omega
  have hr:=s[a].toNat_lt;have hn2:=(Dk s[a].toNat).2;rw[hn]at hn2;have h2:¬((n:Int)<0):=by omega
  have hle':=hle;simp only[dF]at hle';have h4:¬(s.length:Int)<(a:Int)+1+n:=by omega
  have g1:(0:Int)<=(a:Int)+1:=by omega
  have g2:(a:Int)+1<=(a:Int)+1+n:=by omega
  have g3:(a:Int)+1+n<=s.length:=by omega
  have t1:((a:Int)+1).toNat=a+1:=by omega
  have t2:((a:Int)+1+n).toNat=a+1+n:=by omega
  have hd:(s.take (a+1+n)).drop (a+1)=(s.drop (a+1)).take n:=by rw[List.drop_take];congr 1;omega
  have hl2:((s.drop (a+1)).take n).length<=2:=by simp only[cA];omega
  have q5:out.length+1<=9223372036854775807:=by omega
  have q6:(out.length+1)*24<=140737488355328:=by omega
  simp (discharger:=omega) only[h1,h0,if_true,ay,aC,aY,bE,wI,Kh,av,hn,h2,h4,if_false,aJ,g1,g2,g3,bp,t1,t2,hd,zbi _ _ hl2,q5,q6]
  rfl
 ·rw[List.drop_zero];unfold bx;simp only[dz]
  show U (match d_ s.length (0:Int) s with|some r=>_|none=>_)=_;cases d_ s.length 0 s with
  |none=>rfl
  | some r=>
    cases r with
    |nil=>rfl
    |cons x r=>simp
def gf:List UInt8->Int
 |[]=>0
 |[a]=>a.toNat
 |a::b::_=>256*(a.toNat:Int)+b.toNat
def zbj (op:Int)(t:List UInt8):(op=1/\32767<gf t->gf t-65536=iD op t)/\(¬(op=1/\32767<gf t)->gf t=iD op t):=by
 match t with
 |[]=>exact⟨fun h=>absurd h.2 (by simp[gf]),fun _=>rfl⟩
 | [a]=>
   have:=a.toNat_lt;exact⟨fun h=>absurd h.2 (by simp only[gf];omega),fun _=>rfl⟩
 | a::b::l=>
   have:=a.toNat_lt;have:=b.toNat_lt;have hr:gf (a::b::l)=256*(a.toNat:Int)+b.toNat:=rfl;have hn:iD op (a::b::l)=if op=1/\32768<=(a.toNat:Int)*256+b.toNat then(a.toNat:Int)*256+b.toNat-65536 else(a.toNat:Int)*256+b.toNat:=rfl
   rw[hr,hn];constructor
   ·intro h;rw[if_pos ⟨h.1,by omega⟩];omega
   ·intro h;rw[if_neg fun h'=>h ⟨h'.1,by omega⟩];omega
def zbk (t:List UInt8):0<=gf t/\gf t<=65535:=by
 match t with
 |[]=>simp[gf]
 |[a]=>have:=a.toNat_lt;simp only[gf];omega
 |a::b::l=>have:=a.toNat_lt;have:=b.toNat_lt;simp only[gf];omega
def zbl {X Y R:Type}{f:X->Option (X⊕(Y⊕R))}{k:Y->Option R}(t:List UInt8)(mk:Int->Nat->X)(fin:Int->Y)(ht:t.length<=2){x0:X}(hx:x0=mk 0 0)
  (hend:∀acc,f (mk acc t.length)=U (.inr (.inl (fin acc))))
  (hstep:∀acc i (h:i<t.length),0<=acc->acc<=255->f (mk acc i)=U (.inl (mk (256*acc+t[i].toNat) (i+1)))):bindE (aD f x0) k=k (fin (gf t)):=by
 rw[hx]
 match t,ht with
 | [],_=>
   have h1:f (mk 0 0)=U (.inr (.inl (fin 0))):=hend 0;rw[iF h1,aJ];rfl
 | [a],_=>
   have:=a.toNat_lt;have h0:f (mk 0 0)=U (.inl (mk (a.toNat:Int) 1)):=by have:=hstep 0 0 (by simp) (by omega) (by omega);simpa using this
   have h1:f (mk (a.toNat:Int) 1)=U (.inr (.inl (fin (a.toNat:Int)))):=hend _;rw[nQ h0,iF h1,aJ];rfl
 | [a,b],_=>
   have ha:=a.toNat_lt;have hb:=b.toNat_lt;have h0:f (mk 0 0)=U (.inl (mk (a.toNat:Int) 1)):=by have:=hstep 0 0 (by simp) (by omega) (by omega);simpa using this
   have h1:f (mk (a.toNat:Int) 1)=U (.inl (mk (256*(a.toNat:Int)+b.toNat) 2)):=by have:=hstep (a.toNat:Int) 1 (by simp) (by omega) (by omega);simpa using this
   have h2:f (mk (256*(a.toNat:Int)+b.toNat) 2)=U (.inr (.inl (fin (256*(a.toNat:Int)+b.toNat)))):=hend _;rw[nQ h0,nQ h1,iF h2,aJ];rfl
def yR (s:List UInt8)(hs:s.length<=120):nL s=U (bx s):=by
 simp only[nL,jr,av,bT,aF]
 by_cases hr:(1:Int)<=s.length/\(s.length:Int)<=120
 ·rw[if_pos hr];refine(Ki s (fun out a=>(s,out,(a:Int))) ([],ag) (fun r=>(r,ad)) ?_ ?_ ?_ s.length 0 [] (by omega) (by omega) (by simp)).trans ?_
  ·intro out ho;rw[iF (y:=.inl out) (by simp only[bG,if_false]),aJ]
  ·intro out a h ho hb;have h1:(a:Int)<s.length:=by omega
   have h0:(0:Int)<=a:=by omega
   have hrr:=s[a].toNat_lt;rw[iF (y:=.inr ([],ag)),aT];simp (discharger:=omega) only[h1,h0,if_true,ay,aC,aY,bE,wI,t9,av]
   by_cases h2:a_ s[a].toNat<0
   ·rw[if_pos h2];rfl
   ·have h4:(s.length:Int)-a<=a_ s[a].toNat:=by
     have:=hb.resolve_left h2;simp only[dF]at this;omega
    rw[if_neg h2,if_pos h4];rfl
  ·intro out a h n ho hn hle;have h1:(a:Int)<s.length:=by omega
   have h0:(0:Int)<=a:=by omega
   have hrr:=s[a].toNat_lt;have hn2:=(Dk s[a].toNat).2;rw[hn]at hn2;have h2:¬((n:Int)<0):=by omega
   have hle':=hle;simp only[dF]at hle';have h4:¬(s.length:Int)-a<=(n:Int):=by omega
   have g1:(0:Int)<=(a:Int)+1:=by omega
   have g2:(a:Int)+1<=(a:Int)+1+n:=by omega
   have g3:(a:Int)+1+n<=s.length:=by omega
   have t1:((a:Int)+1).toNat=a+1:=by omega
   have t2:((a:Int)+1+n).toNat=a+1+n:=by omega
   have hd:(s.take (a+1+n)).drop (a+1)=(s.drop (a+1)).take n:=by rw[List.drop_take];congr 1;omega
   have hl2:((s.drop (a+1)).take n).length<=2:=by simp only[cA];omega
   have q5:out.length+1<=9223372036854775807:=by omega
   have q6:(out.length+1)*24<=140737488355328:=by omega
   simp (discharger:=omega) only[h1,h0,if_true,ay,aC,aY,bE,wI,t9,av,hn,h2,h4,if_false,aJ,g1,g2,g3,bp,t1,t2,hd]
   generalize (s.drop (a+1)).take n=t at hl2;generalize s[a]=x at hrr;have hk:=zbj x.toNat t;have hrr2:=zbk t;refine(congrArg (bindE · _) (zbl t (fun acc i=>(s,out,(a:Int),(n:Int),t,(t.length:Int),(i:Int),(a:Int),(x.toNat:Int),acc)) (fun acc=>(s,out,(a:Int),(n:Int),(a:Int),(x.toNat:Int),acc)) hl2 rfl ?_ ?_)).trans ?_
   ·intro acc;simp only[bG,if_false]
   ·intro acc i hi ha0 ha1;have i1:(i:Int)<t.length:=by omega
    have i0:(0:Int)<=i:=by omega
    have:=t[i].toNat_lt;simp (discharger:=omega) only[i1,i0,if_true,ay,aC,aY,bE,wI]
    rfl
   ·have e:(if(if(x.toNat:Int)=1 then aa (32767<gf t)else ag)=ad then gf t-65536 else gf t)=iD x.toNat t:=by
     by_cases hc:(x.toNat:Int)=1/\32767<gf t
     ·rw[<-hk.1 hc];simp[hc.1,hc.2]
     ·rw[<-hk.2 hc];by_cases h1:(x.toNat:Int)=1
      ·have:¬32767<gf t:=fun h=>hc ⟨h1,h⟩
       simp[h1,this]
      ·simp[h1]
    rw[<-e];simp only
    by_cases c1:(x.toNat:Int)=1
    ·simp only[if_pos c1,aJ]
     by_cases c2:32767<gf t
     ·simp (discharger:=omega) only[c2,ay,aP,aF,aJ,if_true,q5,q6,bp,aC,wI]
      rw[show(a:Int)+(1+(n:Int))=((a+1+n:Nat):Int)by omega]
     ·simp (discharger:=omega) only[c2,bm,aQ,aF,aJ,if_false,cS,q5,q6,ay,bp,aC,wI]
      rw[show(a:Int)+(1+(n:Int))=((a+1+n:Nat):Int)by omega]
    ·simp (discharger:=omega) only[if_neg c1,aJ,aQ,cS,if_false,q5,q6,ay,bp,aC,wI]
     rw[show(a:Int)+(1+(n:Int))=((a+1+n:Nat):Int)by omega]
  ·rw[List.drop_zero];unfold bx;simp only[dz]
   show U (match d_ s.length (0:Int) s with|some r=>_|none=>_)=_;cases he:d_ s.length 0 s with
   |none=>rfl
   | some r=>
     cases r with
     | nil=>
       exfalso;cases s with
       |nil=>simp at hr
       | cons x l=>
         simp only[bD,d_]at he;split at he
         ·cases he
         ·cases ho:d_ l.length (0+1+a_ x.toNat) (l.drop (a_ x.toNat).toNat)with
          |none=>rw[ho]at he;cases he
          |some q=>rw[ho]at he;simp at he
     |cons x r=>rfl
 ·rw[if_neg hr];have:s=[]:=List.length_eq_zero_iff.1 (by omega);subst this;rfl
end Go.Proofs.YtdpapeledldifaaGreat
end
section
namespace Go.Stow
def eC {α:Type}{l:List α}(d:α){P:α->Prop}:(∀x∈l,P x)↔∀i,i<l.length->P (l.getD i d):=by
 constructor
 ·intro h i hi;rw[List.getD_eq_getElem?_getD,bt hi];exact h _ (List.getElem_mem hi)
 ·intro h x hx;obtain⟨i,hi,rfl⟩:=List.mem_iff_getElem.1 hx;have:=h i hi;rwa[List.getD_eq_getElem?_getD,bt hi]at this
def Kk:∀(m:Nat) (a:Int) (s:List UInt8) (r:List InsP),d_ m a s=U r->r.length<=m
 |0,a,[],r,h=>by simp only[d_,aK]at h;simp[<-h]
 |_+1,a,[],r,h=>by simp only[d_,aK]at h;simp[<-h]
 |0,a,_::_,r,h=>by simp[d_]at h
 | m+1,a,x::l,r,h=>by
   simp only[d_]at h;split at h
   ·cases h
   ·cases ho:d_ m (a+1+a_ x.toNat) (l.drop (a_ x.toNat).toNat)with
    |none=>rw[ho]at h;cases h
    | some q=>
      rw[ho]at h;simp only[Option.map_some,aK]at h;have:=Kk m _ _ q ho;rw[<-h];simp only[bD]
      omega
def pq (s:List UInt8):(bx s).1.length<=s.length:=by
 unfold bx;cases h:d_ s.length 0 s with
 |none=>simp
 | some r=>
   cases r with
   |nil=>simp
   |cons x r=>exact Kk _ _ _ _ h
def Kl:∀(k:Nat) (l:List UInt8) (ts:List (List UInt8)) (b:List UInt8),more k l=U (ts,b)->ts.length<=k
 |0,[],ts,b,h=>by simp[more]at h
 |_+1,[],ts,b,h=>by simp[more]at h
 | 0,x::l,ts,b,h=>by
   simp only[more]at h;split at h
   ·simp only[aK,bH]at h;rw[<-h.1];simp
   ·cases h
 | k+1,x::l,ts,b,h=>by
   rw[yI]at h;split at h
   ·simp only[aK,bH]at h;rw[<-h.1];simp
   ·cases ho:one (x::l)with
    |none=>rw[ho]at h;cases h
    | some p=>
      rw[ho]at h;simp only[bh]at h;cases hm:more k p.2 with
      |none=>rw[hm]at h;cases h
      | some q=>
        obtain⟨q1,q2⟩:=q;rw[hm]at h;simp only[Option.map_some,aK,bH]at h;have:=Kl k _ _ _ hm;rw[<-h.1];simp only[bD]
        omega
def t_ (s:List UInt8):(ib s).1.length<=4:=by
 cases s with
 |nil=>simp[ib]
 | cons x l=>
   simp only[ib]
   split
   ·cases h:more 4 l with
    |none=>simp
    | some p=>
      obtain⟨ts,b⟩:=p;simp only
      split
      ·exact Kl 4 l ts b h
      ·simp
   ·simp
end Go.Stow
namespace Go.Proofs.YtdpapeledldifaaGreat
open Go Go.AM Go.TM Go.Stow
def ua (l:List InsP)(a:Int)(hl:l.length<=1048576):kO (l,a)=U (bf l a):=by
 simp only[kO,aF]
 refine(C8 (fun i=>(l,a,(i:Int))) () l (fun x=>aa (x.1=a)) (fun i=>(i:Int)) rfl ?_ ?_).trans ?_
 ·simp only[bG,if_false]
 ·intro i hi;have i1:(i:Int)<l.length:=by omega
  have i0:(0:Int)<=i:=by omega
  simp (discharger:=omega) only[i1,i0,if_true,ay,aC,aY,bE,wI,aI]
  split<;>rfl
 ·unfold bf;cases l.findIdx? (fun x=>aa (x.1=a))<;>rfl
def zbm (op:Int):oW op=U (cx op):=by
 simp only[oW,aF,aP,eg,aJ,aT]
 unfold cx
 repeat' split
 all_goals first|rfl|(exfalso;omega)
def zbn (c:Cls)(m:Mth)(l:List InsP)(x:InsP)(hp:cj c.1)(hl:l.length<=1048576):xu (c,m,l,x)=U (aa (jq c.1 m.2.2.2.2.1 l x)):=by
 obtain⟨c0,c1,c2,c3,c4,c5,c6⟩:=c;obtain⟨m0,m1,m2,m3,m4,m5,m6,m7⟩:=m;obtain⟨x0,x1,x2⟩:=x;simp only at hp;have hI:jq c0 m4 l (x0,x1,x2)↔((3<=x1/\x1<=6->x2<m4)/\(14<=x1/\x1<=18->0<=bf l x2)/\(cx x1≠0->(bb c0 x2).1=cx x1)):=Iff.rfl;simp only[xu,i4,ua _ _ hl,zbm,J_ _ _ _ hp,av,aF]
 by_cases h1:3<=x1/\x1<=6
 ·rw[if_pos h1];have h2:¬(14<=x1/\x1<=18):=by omega
  have h3:cx x1=0:=by unfold cx;repeat' split<;>omega
  exact sd (by rw[hI,decide_eq_true_iff];simp[h1,h2,h3])
 ·rw[if_neg h1];by_cases h2:14<=x1/\x1<=18
  ·rw[if_pos h2];have h3:cx x1=0:=by unfold cx;repeat' split<;>omega
   exact sd (by rw[hI,decide_eq_true_iff];simp[h1,h2,h3])
  ·rw[if_neg h2];by_cases h3:cx x1=0
   ·rw[if_pos h3];exact sd (by rw[hI];simp[h1,h2,h3])
   ·rw[if_neg h3];exact sd (by rw[hI,decide_eq_true_iff];simp[h1,h2,h3])
def zbo (c:Cls)(m:Mth)(l:List InsP)(t:Trp)(hp:cj c.1)(hl:l.length<=1048576):xv (c,m,l,t)=U (aa (iE c.1 m.2.2.2.2.2.1.length l t)):=by
 obtain⟨c0,c1,c2,c3,c4,c5,c6⟩:=c;obtain⟨m0,m1,m2,m3,m4,m5,m6,m7⟩:=m;obtain⟨t0,t1,t2,t3⟩:=t;simp only at hp;have hI:iE c0 m5.length l (t0,t1,t2,t3)↔(t0<t1/\0<=bf l t0/\(t1=(m5.length:Int)\/0<=bf l t1)/\0<=bf l t2/\(t3=0\/cO c0 t3)):=Iff.rfl;simp only[xv,ua _ _ hl,av,bT,aF]
 by_cases h1:t1<=t0
 ·rw[if_pos h1,aT];exact sd (by rw[hI];exact iff_of_false (by simp) fun h=>by omega)
 rw[if_neg h1];by_cases h2:bf l t0<0
 ·rw[if_pos h2,aT];exact sd (by rw[hI];exact iff_of_false (by simp) fun h=>by omega)
 rw[if_neg h2]
 have hfin:(t1=(m5.length:Int)\/0<=bf l t1)->(bindE (if bf l t2<0 then U (Sum.inr ag)else U (Sum.inl ((c0,c1,c2,c3,c4,c5,c6),t0,t1,t2,t3)):Option ((Cls×Int×Int×Int×Int)⊕Bool)) fun(x:Cls×Int×Int×Int×Int)=>
   if x.2.2.2.2=0 then U ad else ai (iR (x.1.1,x.2.2.2.2)) fun y=>U (!aa (y=[])))=U (aa (iE c0 m5.length l (t0,t1,t2,t3))):=by
  intro h3;by_cases h4:bf l t2<0
  ·rw[if_pos h4,aT];exact sd (by rw[hI];exact iff_of_false (by simp) fun h=>by omega)
  rw[if_neg h4,aJ];simp only[pn _ _ hp,av]
  by_cases h5:t3=0
  ·rw[if_pos h5];exact sd (by rw[hI];exact iff_of_true rfl ⟨by omega,by omega,h3,by omega,.inl h5⟩)
  ·rw[if_neg h5];refine sd ?_;rw[hI];simp only[Bool.not_eq_true',bN]
   rw[show(¬cg c0 t3=[])↔cO c0 t3 from kU];exact⟨fun h=>⟨by omega,by omega,h3,by omega,.inr h⟩,fun h=>h.2.2.2.2.resolve_left h5⟩
 by_cases h3:t1=(m5.length:Int)
 ·rw[if_pos h3];exact hfin (.inl h3)
 ·rw[if_neg h3];by_cases h4:bf l t1<0
  ·rw[if_pos h4,aT];exact sd (by rw[hI];exact iff_of_false (by simp) fun h=>by omega)
  ·rw[if_neg h4];exact hfin (.inr (by omega))
def Km (c:Cls)(l:List Knd)(hp:cj c.1)(hl:l.length<=1048576):mw (c,l)=U (aa (dO c.1 l)):=by
 obtain⟨c0,c1,c2,c3,c4,c5,c6⟩:=c;simp only at hp;simp only[mw,aF]
 refine i5 (fun i=>(l,(i:Int),c0,c1,c2,c3,c4,c5,c6)) () ag l.length (fun i=>kW c0 (l.getD i (0,0))) rfl ?_ ?_ ?_ ?_
 ·simp only[bG,if_false]
 ·intro i hi;have i1:(i:Int)<l.length:=by omega
  have i0:(0:Int)<=i:=by omega
  simp only[i1,i0,if_true,ay,aC,aY]
  simp only[ed ((0,0):Knd) hi]
  generalize l.getD i (0,0)=x;have hK:kW c0 x↔((0<=x.1/\x.1<=3)/\(x.1=3->cO c0 x.2)/\(x.1≠3->x.2=0)):=Iff.rfl;simp only[i4,pn _ _ hp,av,bT,aF]
  by_cases h1:0<=x.1/\x.1<=3
  ·rw[if_pos h1];by_cases h2:x.1=3
   ·rw[if_pos h2,if_pos h2];by_cases h3:cg c0 x.2=[]
    ·rw[if_pos h3];exact .inr ⟨fun h=>kU.2 ((hK.1 h).2.1 h2) h3,rfl⟩
    ·rw[if_neg h3];refine .inl ⟨hK.2 ⟨h1,fun _=>kU.1 h3,fun h=>absurd h2 h⟩,?_⟩;simp only[aJ]
     rw[wI (by omega) (by omega)];rfl
   ·rw[if_neg h2,if_neg h2];by_cases h3:x.2=0
    ·rw[if_pos h3];refine .inl ⟨hK.2 ⟨h1,fun h=>absurd h h2,fun _=>h3⟩,?_⟩;simp only[aJ]
     rw[wI (by omega) (by omega)];rfl
    ·rw[if_neg h3];exact .inr ⟨fun h=>h3 ((hK.1 h).2.2 h2),rfl⟩
  ·rw[if_neg h1];exact .inr ⟨fun h=>h1 (hK.1 h).1,rfl⟩
 ·intro h;exact sd (iff_of_true rfl ((eC (0,0)).2 h))
 ·intro h;exact sd (iff_of_false (by simp) fun h'=>h ((eC (0,0)).1 h'))
def zbp (c:Cls)(m:Mth)(hp:cj c.1)(hm:0<=m.1/\m.1<=255):xt (c,m)=U (lH c.1 m):=by
 obtain⟨c0,c1,c2,c3,c4,c5,c6⟩:=c;obtain⟨m0,m1,m2,m3,m4,m5,m6,m7⟩:=m;obtain⟨hm0,hm1⟩:=hm;simp only at hp hm0 hm1;have hd:=t_ (bq c0 m2);simp only[xt,nR _ _ hp,Dc _ (jP hp _),kn hm0 hm1 (show(1:Int)<=1 by omega),av,aF,lH]
 split
 ·rfl
 ·rw[wI (by omega) (by omega)]
def zbq (c:Cls)(m:Mth)(l:List InsP)(hp:cj c.1)(hl:l.length<=1048576)(hm:m.2.2.2.2.2.2.2.length<=1048576)(hk:∀ f∈m.2.2.2.2.2.2.2,mD f):xw (c,m,l)=U (aa (pk c.1 m l)):=by
 obtain⟨c0,c1,c2,c3,c4,c5,c6⟩:=c;obtain⟨m0,m1,m2,m3,m4,m5,m6,m7⟩:=m;simp only at hp hm hk;simp only[xw,aF]
 refine i5 (fun i=>(l,(i:Int),(c0,c1,c2,c3,c4,c5,c6),m0,m1,m2,m3,m4,m5,m6,m7)) () ag m7.length (qV c0 (m0,m1,m2,m3,m4,m5,m6,m7) l) rfl ?_ ?_ ?_ ?_
 ·simp only[bG,if_false]
 ·intro i hi;have i1:(i:Int)<m7.length:=by omega
  have i0:(0:Int)<=i:=by omega
  have hF:qV c0 (m0,m1,m2,m3,m4,m5,m6,m7) l i↔(0<=bf l (m7.getD i (0,[],[])).1/\(0<i->(m7.getD (i-1) (0,[],[])).1<(m7.getD i (0,[],[])).1)/\((m7.getD i (0,[],[])).2.1.length:Int)=m4/\((m7.getD i (0,[],[])).2.2.length:Int)<=m3/\dO c0 (m7.getD i (0,[],[])).2.1/\dO c0 (m7.getD i (0,[],[])).2.2):=Iff.rfl;have hb:mD (m7.getD i (0,[],[])):=(eC (P:=mD) (0,[],[])).1 hk i hi;simp only[i1,i0,if_true,ay,aC,aY]
  rw[ed (0,[],[]) hi];rw[hF];generalize m7.getD i (0,[],[])=x at hb;have z1:mw ((c0,c1,c2,c3,c4,c5,c6),x.2.1)=U (aa (dO c0 x.2.1)):=Km (c0,c1,c2,c3,c4,c5,c6) x.2.1 hp hb.1;have z2:mw ((c0,c1,c2,c3,c4,c5,c6),x.2.2)=U (aa (dO c0 x.2.2)):=Km (c0,c1,c2,c3,c4,c5,c6) x.2.2 hp hb.2;simp only[ua _ _ hl,z1,z2,av,bT,aF]
  by_cases h1:bf l x.1<0
  ·rw[if_pos h1];exact .inr ⟨fun h=>by omega,rfl⟩
  rw[if_neg h1]
  have hrest:(0<i->(m7.getD (i-1) (0,[],[])).1<x.1)->∀F:Option ((List InsP×Int×Cls×Mth)⊕((List InsP×Int×Cls×Mth)⊕(Unit⊕Bool)))->Option ((List InsP×Int×Cls×Mth)⊕(Unit⊕Bool)),F (U (.inr (.inr (.inr ag))))=U (.inr (.inr ag)) ->
    F (U (.inl (l,(i:Int),(c0,c1,c2,c3,c4,c5,c6),m0,m1,m2,m3,m4,m5,m6,m7)))=U (.inl (l,((i+1:Nat):Int),(c0,c1,c2,c3,c4,c5,c6),m0,m1,m2,m3,m4,m5,m6,m7)) ->
    ((0<=bf l x.1/\(0<i->(m7.getD (i-1) (0,[],[])).1<x.1)/\(x.2.1.length:Int)=m4/\(x.2.2.length:Int)<=m3/\dO c0 x.2.1/\dO c0 x.2.2) /\
      F (if(x.2.1.length:Int)=m4 then if m3<(x.2.2.length:Int)then U (.inr (.inr (.inr ag)))else if dO c0 x.2.1 then if dO c0 x.2.2 then U (.inl (l,(i:Int),(c0,c1,c2,c3,c4,c5,c6),m0,m1,m2,m3,m4,m5,m6,m7))else U (.inr (.inr (.inr ag)))else U (.inr (.inr (.inr ag)))else U (.inr (.inr (.inr ag))))=U (.inl (l,((i+1:Nat):Int),(c0,c1,c2,c3,c4,c5,c6),m0,m1,m2,m3,m4,m5,m6,m7))) \/
    (¬(0<=bf l x.1/\(0<i->(m7.getD (i-1) (0,[],[])).1<x.1)/\(x.2.1.length:Int)=m4/\(x.2.2.length:Int)<=m3/\dO c0 x.2.1/\dO c0 x.2.2) /\
     F (if(x.2.1.length:Int)=m4 then if m3<(x.2.2.length:Int)then U (.inr (.inr (.inr ag)))else if dO c0 x.2.1 then if dO c0 x.2.2 then U (.inl (l,(i:Int),(c0,c1,c2,c3,c4,c5,c6),m0,m1,m2,m3,m4,m5,m6,m7))else U (.inr (.inr (.inr ag)))else U (.inr (.inr (.inr ag)))else U (.inr (.inr (.inr ag))))=U (.inr (.inr ag))):=by
   intro h2 F f1 f2;by_cases h3:(x.2.1.length:Int)=m4
   ·rw[if_pos h3];by_cases h4:m3<(x.2.2.length:Int)
    ·rw[if_pos h4];exact .inr ⟨fun h=>by omega,f1⟩
    ·rw[if_neg h4];by_cases h5:dO c0 x.2.1
     ·rw[if_pos h5];by_cases h6:dO c0 x.2.2
      ·rw[if_pos h6];exact .inl ⟨⟨by omega,h2,h3,by omega,h5,h6⟩,f2⟩
      ·rw[if_neg h6];exact .inr ⟨fun h=>h6 h.2.2.2.2.2,f1⟩
     ·rw[if_neg h5];exact .inr ⟨fun h=>h5 h.2.2.2.2.1,f1⟩
   ·rw[if_neg h3];exact .inr ⟨fun h=>h3 h.2.2.1,f1⟩
  by_cases h2:(0:Int)<i
  ·have j1:((i:Int)-1).toNat=i-1:=by omega
   have j0:(0:Int)<=(i:Int)-1:=by omega
   have jl:i-1<m7.length:=by omega
   rw[if_pos h2];simp (discharger:=omega) only[wI,j0,ay,aC,j1]
   rw[ed (0,[],[]) jl];by_cases h3:x.1<=(m7.getD (i-1) (0,[],[])).1
   ·rw[if_pos h3];exact .inr ⟨fun h=>by have:=h.2.1 (by omega);omega,rfl⟩
   ·rw[if_neg h3];refine hrest (fun _=>by omega) (bindE · _) rfl ?_;simp only[aJ]
    rw[wI (by omega) (by omega)];rfl
  ·rw[if_neg h2];refine hrest (fun h=>absurd h (by omega)) (bindE · _) rfl ?_;simp only[aJ]
   rw[wI (by omega) (by omega)];rfl
 ·intro h;exact sd (iff_of_true rfl h)
 ·intro h;exact sd (iff_of_false (by simp) h)
end Go.Proofs.YtdpapeledldifaaGreat
end
namespace Go.Proofs.YtdpapeledldifaaGreat
section
open Go Go.AM Go.TM Go.Stow
def zbr (c:Cls)(m:Mth)(hp:cj c.1)(hm:0<=m.1/\m.1<=255)(hb:lF m):tl (c,m)=U (aa (¬aO m.1 8->eB c.1 m)):=by
 have z245:=zbp c m hp hm;obtain⟨c0,c1,c2,c3,c4,c5,c6⟩:=c;obtain⟨m0,m1,m2,m3,m4,m5,m6,m7⟩:=m;obtain⟨hm0,hm1⟩:=hm;obtain⟨b1,b2,b3,b4⟩:=hb;simp only at hp hm0 hm1 b1 b2 b3 b4 z245;have hlen:=pq m5;have hB:eB c0 (m0,m1,m2,m3,m4,m5,m6,m7)↔((bx m5).2=ad/\m3<=8/\(lH c0 (m0,m1,m2,m3,m4,m5,m6,m7)<=m4/\m4<=8)/\(∀x∈(bx m5).1,jq c0 m4 (bx m5).1 x)/\(∀t∈m6,iE c0 m5.length (bx m5).1 t)/\pk c0 (m0,m1,m2,m3,m4,m5,m6,m7) (bx m5).1):=Iff.rfl;simp only[tl,kn hm0 hm1 (show(1:Int)<=8 by omega),Kj _ b1,av,aF,bT]
 by_cases h0:aO m0 8
 ·rw[if_pos h0];exact sd (iff_of_true rfl fun h=>absurd h0 h)
 rw[if_neg h0];have hgo:∀b:Bool,(b=ad↔eB c0 (m0,m1,m2,m3,m4,m5,m6,m7))->U b=U (aa (¬aO m0 8->eB c0 (m0,m1,m2,m3,m4,m5,m6,m7))):=fun b hb=>sd (hb.trans ⟨fun h _=>h,fun h=>h h0⟩)
 generalize hv:bx m5=v at hlen hB;obtain⟨ops,ok⟩:=v;simp only at hlen hB ⊢;have hol:ops.length<=1048576:=by omega
 cases ok with
 | false=>
   rw[aQ,aT];exact hgo ag (by rw[hB];exact iff_of_false (by simp) fun h=>by cases h.1)
 | true=>
   rw[aP];by_cases h1:8<m3
   ·rw[if_pos h1,aT];exact hgo ag (by rw[hB];exact iff_of_false (by simp) fun h=>by omega)
   rw[if_neg h1,z245,av];simp only[eq_self,ay,aC,bQ,i4,av,aF]
   by_cases h2:lH c0 (m0,m1,m2,m3,m4,m5,m6,m7)<=m4/\m4<=8
   ·rw[if_pos h2,aJ];simp only
    refine i5 (fun i=>(ops,(i:Int),(c0,c1,c2,c3,c4,c5,c6),m0,m1,m2,m3,m4,m5,m6,m7)) (ops,(c0,c1,c2,c3,c4,c5,c6),m0,m1,m2,m3,m4,m5,m6,m7) ag ops.length (fun i=>jq c0 m4 ops (ops.getD i (0,0,0))) rfl ?_ ?_ ?_ ?_
    ·simp only[bG,if_false]
    ·intro i hi;have i1:(i:Int)<ops.length:=by omega
     have i0:(0:Int)<=i:=by omega
     simp only[i1,i0,if_true,ay,bp,aC,aY]
     rw[ed (0,0,0) hi];generalize ops.getD i (0,0,0)=x;have z:=zbn (c0,c1,c2,c3,c4,c5,c6) (m0,m1,m2,m3,m4,m5,m6,m7) ops x hp hol;rw[show((x.1,x.2.1,x.2.2):InsP)=x from rfl,z];simp only[av,aF]
     by_cases h:jq c0 m4 ops x
     ·rw[if_pos h,wI (by omega) (by omega)];exact .inl ⟨h,rfl⟩
     ·rw[if_neg h];exact .inr ⟨h,rfl⟩
    ·intro hins;have hins:=(eC (P:=fun x=>jq c0 m4 ops x) (0,0,0)).2 hins;simp only
     refine i5 (fun i=>(ops,(i:Int),(c0,c1,c2,c3,c4,c5,c6),m0,m1,m2,m3,m4,m5,m6,m7)) (ops,(c0,c1,c2,c3,c4,c5,c6),m0,m1,m2,m3,m4,m5,m6,m7) ag m6.length (fun i=>iE c0 m5.length ops (m6.getD i (0,0,0,0))) rfl ?_ ?_ ?_ ?_
     ·simp only[bG,if_false]
     ·intro i hi;have i1:(i:Int)<m6.length:=by omega
      have i0:(0:Int)<=i:=by omega
      simp only[i1,i0,if_true,ay,bp,aC,aY]
      rw[ed (0,0,0,0) hi];generalize m6.getD i (0,0,0,0)=x;have z:=zbo (c0,c1,c2,c3,c4,c5,c6) (m0,m1,m2,m3,m4,m5,m6,m7) ops x hp hol;rw[show((x.1,x.2.1,x.2.2.1,x.2.2.2):Trp)=x from rfl,z];simp only[av,aF]
      by_cases h:iE c0 m5.length ops x
      ·rw[if_pos h,wI (by omega) (by omega)];exact .inl ⟨h,rfl⟩
      ·rw[if_neg h];exact .inr ⟨h,rfl⟩
     ·intro htr;have htr:=(eC (P:=fun x=>iE c0 m5.length ops x) (0,0,0,0)).2 htr;have z:=zbq (c0,c1,c2,c3,c4,c5,c6) (m0,m1,m2,m3,m4,m5,m6,m7) ops hp hol b3 b4;simp only
      rw[z,av];refine hgo _ ?_;rw[hB,decide_eq_true_iff];exact⟨fun h=>⟨rfl,by omega,h2,hins,htr,h⟩,fun h=>h.2.2.2.2.2⟩
     ·intro htr;exact hgo ag (by rw[hB];exact iff_of_false (by simp) fun h=>htr ((eC (P:=fun x=>iE c0 m5.length ops x) (0,0,0,0)).1 h.2.2.2.2.1))
    ·intro hins;exact hgo ag (by rw[hB];exact iff_of_false (by simp) fun h=>hins ((eC (P:=fun x=>jq c0 m4 ops x) (0,0,0)).1 h.2.2.2.1))
   ·rw[if_neg h2,aT];exact hgo ag (by rw[hB];exact iff_of_false (by simp) fun h=>h2 h.2.2.1)
def ub (l:List InsP)(a:Int)(hl:l.length<=1048576):my (l,a)=U (bf l a):=by
 have e:yh (l,a)=U (bf l a,a):=by
  simp only[yh,aF]
  refine(C8 (fun i=>(l,(l.length:Int),(i:Int),a)) a l (fun x=>aa (x.1=a)) (fun i=>((i:Int),a)) rfl ?_ ?_).trans ?_
  ·simp only[bG,if_false]
  ·intro i hi;have i1:(i:Int)<l.length:=by omega
   have i0:(0:Int)<=i:=by omega
   simp (discharger:=omega) only[i1,i0,if_true,ay,aC,aY,bE,wI,aI,Cx,av,aF]
   split<;>rfl
  ·unfold bf;cases l.findIdx? (fun x=>aa (x.1=a))<;>rfl
 simp only[my,e,av]
def zbs (op:Int):yg op=U (cx op):=by
 simp only[yg,jr,av,aF,aP,eg,aJ,aT]
 unfold cx
 repeat' split
 all_goals first|rfl|(exfalso;omega)
def Ko (c:Cls)(l:List Knd)(hp:cj c.1)(hok:kV c.1)(hl:l.length<=1048576)(hk:∀ k∈l,0<=k.1/\k.1<=3):pd (c,l)=U (aa (dO c.1 l)):=by
 obtain⟨c0,c1,c2,c3,c4,c5,c6⟩:=c;simp only at hp hok;simp only[pd,Cz,Cy]
 have hk':=(eC (P:=fun k:Knd=>0<=k.1/\k.1<=3) (0,0)).1 hk
 have key:=yQ (f:=(fun(x:List Knd×Int×Int×Cls)=>ah (aa (x.2.2.1<x.2.1))
    (af (aa (0<=x.2.2.1)) (aq x.1 (aH x.2.2.1) fun y=>ai (tO ((y.1,y.2),x.2.2.2.1,x.2.2.2.2.1,x.2.2.2.2.2.1,x.2.2.2.2.2.2.1,x.2.2.2.2.2.2.2.1,x.2.2.2.2.2.2.2.2.1,x.2.2.2.2.2.2.2.2.2)) fun z=>
    ah z.1 (U (.inr (.inr (x.2.2.1,z.2)))) (U (.inl (x.1,x.2.1,IntKind.wrap .i64 (x.2.2.1+1),z.2)))))
    (U (.inr (.inl (x.2.2.2.1,x.2.2.2.2.1,x.2.2.2.2.2.1,x.2.2.2.2.2.2.1,x.2.2.2.2.2.2.2.1,x.2.2.2.2.2.2.2.2.1,x.2.2.2.2.2.2.2.2.2))))))
  (fun k=>(l,(l.length:Int),(k:Int),c0,c1,c2,c3,c4,c5,c6)) (c0,c1,c2,c3,c4,c5,c6) (fun k=>((k:Int),c0,c1,c2,c3,c4,c5,c6)) l.length (fun k=>¬kW c0 (l.getD k (0,0))) (x0:=(l,(l.length:Int),0,c0,c1,c2,c3,c4,c5,c6)) (k:=fun x=>U ((-1:Int),x)) rfl ?_ ?_
 ·rcases key with⟨h1,h2⟩|⟨k,h1,h2,h3⟩
  ·rw[nS h2];exact sd (iff_of_true rfl ((eC (0,0)).2 fun i hi=>Classical.not_not.1 (h1 i hi)))
  ·rw[nS h3];refine sd (iff_of_false ?_ fun h=>h2 ((eC (0,0)).1 h k h1));simp
 ·simp only[bG,bm,aQ]
 ·intro k hkl;have k1:(k:Int)<l.length:=by omega
  have k0:(0:Int)<=k:=by omega
  simp only[k1,k0,ay,aP,aC,aY]
  rw[ed (0,0) hkl];have hr:=hk' k hkl;generalize l.getD k (0,0)=x at hr;have hK:kW c0 x↔((0<=x.1/\x.1<=3)/\(x.1=3->cO c0 x.2)/\(x.1≠3->x.2=0)):=Iff.rfl;have z162:kP ((c0,c1,c2,c3,c4,c5,c6),x.2)=U (aa ((bb c0 x.2).1=2)):=Dh (c0,c1,c2,c3,c4,c5,c6) x.2 hp
  have z:tO ((x.1,x.2),c0,c1,c2,c3,c4,c5,c6)=U (aa (¬kW c0 x),c0,c1,c2,c3,c4,c5,c6):=by
   simp only[tO,z162,av,bT,aF]
   by_cases h1:x.1=3
   ·rw[if_pos h1];by_cases h2:(bb c0 x.2).1=2
    ·rw[if_pos h2,if_pos h1,decide_eq_false fun h=>h (hK.2 ⟨hr,fun _=>hok.cls.2 h2,fun h=>absurd h1 h⟩)]
    ·rw[if_neg h2,decide_eq_true (p:=¬kW c0 x) fun h=>h2 ((hK.1 h).2.1 h1).1]
   ·rw[if_neg h1,if_neg h1];by_cases h2:x.2=0
    ·rw[decide_eq_true h2,decide_eq_false fun h=>h (hK.2 ⟨hr,fun h=>absurd h h1,fun _=>h2⟩)];rfl
    ·rw[decide_eq_false h2,decide_eq_true (p:=¬kW c0 x) fun h=>h2 ((hK.1 h).2.2 h1)];rfl
  refine(show ¬kW c0 x/\_=_\/_ from ?_);rw[z];simp only[av,aF]
  rw[wI (by omega) (by omega)];by_cases e:¬kW c0 x
  ·rw[if_pos e];exact .inl ⟨e,rfl⟩
  ·rw[if_neg e];exact .inr ⟨e,rfl⟩
end
end Go.Proofs.YtdpapeledldifaaGreat
namespace Go.Stow
section
def iG (x:InsP):List UInt8 :=
 if a_ x.2.1=1 then [UInt8.ofNat x.2.2.toNat]else if a_ x.2.1=2 then [UInt8.ofNat (((x.2.2+65536) % 65536).toNat / 256),UInt8.ofNat (((x.2.2+65536) % 65536).toNat % 256)]else []
def Dl (x:InsP):List UInt8:=UInt8.ofNat x.2.1.toNat::iG x
def enc (l:List InsP):List UInt8:=l.flatMap Dl
def jt (x:InsP):Prop:=0<=a_ x.2.1/\(a_ x.2.1=0->x.2.2=0)/\(a_ x.2.1=1->0<=x.2.2/\x.2.2<=255) /\
 (a_ x.2.1=2->x.2.1=1 -> -32768<=x.2.2/\x.2.2<=32767)/\(a_ x.2.1=2->x.2.1≠1->0<=x.2.2/\x.2.2<=65535)
def fy:Int->List InsP->Prop
 |_,[]=>True
 |a,x::l=>x.1=a/\fy (a+1+a_ x.2.1) l
def dy:Int->List InsP->Int
 |a,[]=>a
 |a,x::l=>dy (a+1+a_ x.2.1) l
def lI (op:Int):(a_ op = -1\/a_ op=0\/a_ op=1\/a_ op=2)/\(0<=a_ op->0<=op/\op<=34):=by
 unfold a_
 repeat' split
 all_goals first|(constructor<;>omega)
def Kp {x:InsP}(h:0<=a_ x.2.1):((iG x).length:Int)=a_ x.2.1:=by
 have:=(lI x.2.1).1;unfold iG;split
 ·rename_i h;rw[h];rfl
 ·split
  ·rename_i h;rw[h];rfl
  ·simp only[cW];omega
def zbt {op:Int}(h:0<=a_ op):((UInt8.ofNat op.toNat).toNat:Int)=op:=by
 have:=(lI op).2 h;rw[UInt8.toNat_ofNat'];omega
def zbu {x:InsP}(h:jt x):iD x.2.1 (iG x)=x.2.2:=by
 obtain⟨at',op,n⟩:=x;obtain⟨h0,h1,h2,h3,h4⟩:=h;simp only at h0 h1 h2 h3 h4;have hr:=(lI op).1;unfold iG;simp only
 by_cases e1:a_ op=1
 ·rw[if_pos e1];obtain⟨a1,a2⟩:=h2 e1;simp only[iD,UInt8.toNat_ofNat']
  omega
 ·rw[if_neg e1];by_cases e2:a_ op=2
  ·rw[if_pos e2];simp only[iD,UInt8.toNat_ofNat']
   by_cases o1:op=1
   ·obtain⟨a1,a2⟩:=h3 e2 o1;split<;>omega
   ·obtain⟨a1,a2⟩:=h4 e2 o1;rw[if_neg (by omega)];omega
  ·rw[if_neg e2];simp only[iD]
   rw[h1 (by omega)]
def Kr (x:InsP)(l:List InsP):enc (x::l)=UInt8.ofNat x.2.1.toNat::(iG x++enc l):=rfl
def Ks:∀(l:List InsP) (a:Int) (k:Nat),(∀x∈l,jt x)->fy a l->(enc l).length<=k->d_ k a (enc l)=U l
 | [],a,k,_,_,_=>by
   have:enc []=[]:=rfl;rw[this];cases k<;>rfl
 | x::l,a,k,hg,hp,hk=>by
   have hx:=hg x (by simp);have hl:=Kp hx.1;rw[Kr]at hk ⊢;simp only[bD,aR]at hk;cases k with
   |zero=>omega
   | succ k=>
     simp only[d_]
     rw[zbt hx.1];have hn:(a_ x.2.1).toNat=(iG x).length:=by omega
     rw[if_neg (by simp only[aR];have:=hx.1;omega),hn,List.drop_left,List.take_left,zbu hx,Ks l _ k (fun y hy=>hg y (by simp[hy])) hp.2 (by omega)];obtain⟨p,op,n⟩:=x;have:=hp.1;simp only at this;subst this;rfl
def Dm:∀(l:List InsP) (a:Int),(∀x∈l,jt x)->dy a l=a+(enc l).length
 |[],a,_=>by simp[dy,enc]
 | x::l,a,hg=>by
   have hx:=hg x (by simp);have hl:=Kp hx.1;rw[Kr];simp only[dy,bD,aR]
   rw[Dm l _ fun y hy=>hg y (by simp[hy])];omega
def Kt:∀(k:Nat) (a:Int) (s:List UInt8) (l:List InsP),d_ k a s=U l->(∀x∈l,jt x)/\fy a l/\dy a l=a+s.length
 | 0,a,[],l,h=>by
   obtain rfl:=Option.some.inj h;exact⟨by simp,trivial,by simp[dy]⟩
 | k+1,a,[],l,h=>by
   obtain rfl:=Option.some.inj h;exact⟨by simp,trivial,by simp[dy]⟩
 |0,a,x::s,l,h=>by cases h
 | k+1,a,x::s,l,h=>by
   simp only[d_]at h;by_cases hb:a_ x.toNat<0\/(s.length:Int)<a_ x.toNat
   ·rw[if_pos hb]at h;cases h
   ·rw[if_neg hb]at h;cases ho:d_ k (a+1+a_ x.toNat) (s.drop (a_ x.toNat).toNat)with
    |none=>rw[ho]at h;cases h
    | some r=>
      rw[ho]at h;simp only[Option.map_some,aK]at h;subst h;obtain⟨h1,h2,h3⟩:=Kt k _ _ r ho;refine⟨?_,⟨rfl,h2⟩,?_⟩
      ·intro y hy;rcases List.mem_cons.1 hy with rfl|hy
       ·have hr:=(lI x.toNat).1;have h0:0<=a_ x.toNat:=by omega
        have hlen:(s.take (a_ x.toNat).toNat).length=(a_ x.toNat).toNat:=by rw[cA];omega
        generalize s.take (a_ x.toNat).toNat=t at hlen;refine⟨h0,fun e=>?_,fun e=>?_,fun e o1=>?_,fun e o1=>?_⟩
        all_goals simp only at e ⊢;rw[e]at hlen
        ·rw[List.length_eq_zero_iff.1 hlen];rfl
        ·obtain⟨c,rfl⟩:=List.length_eq_one_iff.1 hlen;have:=c.toNat_lt;simp only[iD];omega
        ·match t,hlen with
         | [c,d],_=>
           have:=c.toNat_lt;have:=d.toNat_lt;simp only[iD]
           simp only at o1;split<;>omega
        ·match t,hlen with
         | [c,d],_=>
           have:=c.toNat_lt;have:=d.toNat_lt;simp only[iD]
           simp only at o1;rw[if_neg (by omega)];omega
       ·exact h1 y hy
      ·simp only[dy]
       rw[h3];simp only[bD,dF]
       omega
def cQ:Int->List InsP->List InsP
 |_,[]=>[]
 |a,x::l=>if x.2.1=0/\l≠[]then cQ a l else(a,x.2.1,x.2.2)::cQ (a+1+a_ x.2.1) l
def dg:Int->List InsP->List (Int×Int)
 |_,[]=>[]
 |a,x::l=>(x.1,a)::dg (if x.2.1=0/\l≠[]then a else a+1+a_ x.2.1) l
def fA:Int->List InsP->Int
 |a,[]=>a
 |a,x::l=>fA (if x.2.1=0/\l≠[]then a else a+1+a_ x.2.1) l
def cJ (l:List InsP)(p:Int):Int:=match(dg 0 l).find? (fun q=>aa (q.1=p))with
 |some q=>q.2
 |none=>fA 0 l
def dP (l:List InsP)(p:Int):Prop:=∃x∈l,x.1=p
def iH (l:List InsP)(p:Int):0<=bf l p↔dP l p:=by
 unfold bf dP;cases h:l.findIdx? (fun x=>aa (x.1=p))with
 | none=>
   simp only
   rw[List.findIdx?_eq_none_iff]at h;constructor
   ·intro h;omega
   ·rintro⟨x,hx,e⟩;have:=h x hx;simp[e]at this
 | some j=>
   simp only
   constructor
   ·intro _;rw[List.findIdx?_eq_some_iff_getElem]at h;obtain⟨h1,h2,_⟩:=h;exact⟨l[j],List.getElem_mem h1,by simpa using h2⟩
   ·intro _;omega
def Do:∀(a:Int) (l:List InsP),l≠[]->∃y∈cQ a l,y.1=a
 |a,[],h=>absurd rfl h
 | a,x::l,_=>by
   unfold cQ;by_cases h:x.2.1=0/\l≠[]
   ·rw[if_pos h];exact Do a l h.2
   ·rw[if_neg h];exact⟨_,List.mem_cons_self,rfl⟩
def yS:∀(a:Int) (l:List InsP),fy a (cQ a l)/\dy a (cQ a l)=fA a l
 |a,[]=>⟨trivial,rfl⟩
 | a,x::l=>by
   unfold cQ fA;by_cases h:x.2.1=0/\l≠[]
   ·rw[if_pos h,if_pos h];exact yS a l
   ·rw[if_neg h,if_neg h];obtain⟨h1,h2⟩:=yS (a+1+a_ x.2.1) l;exact⟨⟨rfl,h1⟩,h2⟩
def uc:∀(a:Int) (l:List InsP) (y:InsP),y∈cQ a l->∃x∈l,y.2=x.2
 |a,[],y,h=>by cases h
 | a,x::l,y,h=>by
   unfold cQ at h;by_cases hc:x.2.1=0/\l≠[]
   ·rw[if_pos hc]at h;obtain⟨z,hz,e⟩:=uc a l y h;exact⟨z,List.mem_cons_of_mem _ hz,e⟩
   ·rw[if_neg hc]at h;rcases List.mem_cons.1 h with rfl|h
    ·exact⟨x,List.mem_cons_self,rfl⟩
    ·obtain⟨z,hz,e⟩:=uc _ l y h;exact⟨z,List.mem_cons_of_mem _ hz,e⟩
def Dp:∀(a:Int) (l:List InsP),l≠[]->cQ a l≠[]:=fun a l h e=>by
 obtain⟨y,hy,_⟩:=Do a l h;rw[e]at hy;cases hy
def lJ:List InsP->Prop
 |[]=>True
 |x::l=>(x.2.1=0->l=[])/\lJ l
def Dq:∀(a:Int) (l:List InsP),lJ (cQ a l)
 |a,[]=>trivial
 | a,x::l=>by
   unfold cQ;by_cases h:x.2.1=0/\l≠[]
   ·rw[if_pos h];exact Dq a l
   ·rw[if_neg h];refine⟨fun h0=>?_,Dq _ l⟩;have:l=[]:=Classical.byContradiction fun hl=>h ⟨h0,hl⟩
    rw[this];rfl
def pt:∀(a:Int) (l:List InsP),(∀x∈l,0<=a_ x.2.1)->fy a l->a<=dy a l/\∀x∈l,a<=x.1/\x.1<dy a l
 |a,[],_,_=>⟨by simp[dy],by simp⟩
 | a,x::l,hg,hp=>by
   have hx:=hg x (by simp);obtain⟨h1,h2⟩:=pt _ l (fun y hy=>hg y (by simp[hy])) hp.2;have e:dy a (x::l)=dy (a+1+a_ x.2.1) l:=rfl;rw[e];refine⟨by omega,fun y hy=>?_⟩;rcases List.mem_cons.1 hy with rfl|hy
   ·have:=hp.1;omega
   ·have:=h2 y hy;omega
def pv:∀(a b:Int) (l:List InsP),(∀x∈l,0<=a_ x.2.1)->a<=fA a l/\fA a l-a<=dy b l-b
 |a,b,[],_=>by simp[fA,dy]
 | a,b,x::l,hg=>by
   have hx:=hg x (by simp);unfold fA dy;split
   ·have:=pv a (b+1+a_ x.2.1) l fun y hy=>hg y (by simp[hy])
    omega
   ·have:=pv (a+1+a_ x.2.1) (b+1+a_ x.2.1) l fun y hy=>hg y (by simp[hy])
    omega
def Dr:∀(a:Int) (l:List InsP) (p:Int),dP l p↔∃q∈dg a l,q.1=p
 |a,[],p=>by simp[dP,dg]
 | a,x::l,p=>by
   unfold dg;have ih:=Dr (if x.2.1=0/\l≠[]then a else a+1+a_ x.2.1) l p;constructor
   ·rintro⟨y,hy,e⟩;rcases List.mem_cons.1 hy with rfl|hy
    ·exact⟨_,List.mem_cons_self,e⟩
    ·obtain⟨q,hq,e'⟩:=ih.1 ⟨y,hy,e⟩;exact⟨q,List.mem_cons_of_mem _ hq,e'⟩
   ·rintro⟨q,hq,e⟩;rcases List.mem_cons.1 hq with rfl|hq
    ·exact⟨x,List.mem_cons_self,e⟩
    ·obtain⟨y,hy,e'⟩:=ih.2 ⟨q,hq,e⟩;exact⟨y,List.mem_cons_of_mem _ hy,e'⟩
def Ds:∀(a:Int) (l:List InsP) (q:Int×Int),q∈dg a l->dP (cQ a l) q.2
 |a,[],q,h=>by cases h
 | a,x::l,q,h=>by
   unfold dg at h;unfold cQ;by_cases hc:x.2.1=0/\l≠[]
   ·rw[if_pos hc]at h ⊢;rcases List.mem_cons.1 h with rfl|h
    ·exact Do a l hc.2
    ·exact Ds a l q h
   ·rw[if_neg hc]at h ⊢;rcases List.mem_cons.1 h with rfl|h
    ·exact⟨_,List.mem_cons_self,rfl⟩
    ·obtain⟨y,hy,e⟩:=Ds _ l q h;exact⟨y,List.mem_cons_of_mem _ hy,e⟩
def yT:∀(a b:Int) (l:List InsP),(∀x∈l,0<=a_ x.2.1)->fy b l ->
  (∀q∈dg a l,b<=q.1/\a<=q.2)/\(dg a l).Pairwise fun q q'=>q.1<q'.1/\q.2<=q'.2
 |a,b,[],_,_=>⟨by simp[dg],List.Pairwise.nil⟩
 | a,b,x::l,hg,hp=>by
   have hx:=hg x (by simp);obtain⟨h1,h2⟩:=yT (if x.2.1=0/\l≠[]then a else a+1+a_ x.2.1) _ l (fun y hy=>hg y (by simp[hy])) hp.2;have hle:a<=(if x.2.1=0/\l≠[]then a else a+1+a_ x.2.1):=by split<;>omega
   have hb:=hp.1;unfold dg;refine⟨fun q hq=>?_,List.pairwise_cons.2 ⟨fun q hq=>?_,h2⟩⟩
   ·rcases List.mem_cons.1 hq with rfl|hq
    ·simp only;omega
    ·have:=h1 q hq;omega
   ·have:=h1 q hq;simp only;omega
def ud {l:List InsP}{p:Int}(h:dP l p):∃q∈dg 0 l,q.1=p/\cJ l p=q.2:=by
 obtain⟨q0,hq0,e0⟩:=(Dr 0 l p).1 h;unfold cJ;cases hf:(dg 0 l).find? (fun q=>aa (q.1=p))with
 | none=>
   have:=List.find?_eq_none.1 hf q0 hq0;simp[e0]at this
 |some q=>exact⟨q,List.mem_of_find?_eq_some hf,by simpa using List.find?_some hf,rfl⟩
def yU {l:List InsP}{p:Int}(h:¬ dP l p):cJ l p=fA 0 l:=by
 unfold cJ;cases hf:(dg 0 l).find? (fun q=>aa (q.1=p))with
 |none=>rfl
 |some q=>exact absurd ((Dr 0 l p).2 ⟨q,List.mem_of_find?_eq_some hf,by simpa using List.find?_some hf⟩) h
def Ku {l:List InsP}{p:Int}(h:dP l p):dP (cQ 0 l) (cJ l p):=by
 obtain⟨q,h1,_,h3⟩:=ud h;rw[h3];exact Ds 0 l q h1
def zbv {l:List InsP}(hg:∀ x∈l,0<=a_ x.2.1)(hp:fy 0 l){p p':Int}(h:dP l p)(h':dP l p')(hlt:p<p'):cJ l p<=cJ l p':=by
 obtain⟨q,h1,h2,h3⟩:=ud h;obtain⟨q',h1',h2',h3'⟩:=ud h';obtain⟨i,hi,rfl⟩:=List.mem_iff_getElem.1 h1;obtain⟨j,hj,rfl⟩:=List.mem_iff_getElem.1 h1';have hm:=List.pairwise_iff_getElem.1 (yT 0 0 l hg hp).2;rw[h3,h3'];rcases Nat.lt_trichotomy i j with c|c|c
 ·exact(hm i j hi hj c).2
 ·subst c;omega
 ·have:=(hm j i hj hi c).1;omega
def Kv {l:List InsP}(hg:∀ x∈l,0<=a_ x.2.1)(p:Int):0<=cJ l p/\cJ l p<=fA 0 l:=by
 have hk:=yS 0 l;have he:=pv 0 0 l hg;by_cases h:dP l p
 ·obtain⟨y,hy,e⟩:=Ku h
  have hg':∀x∈cQ 0 l,0<=a_ x.2.1:=fun x hx=>by
   obtain⟨z,hz,e⟩:=uc 0 l x hx;rw[e];exact hg z hz
  have:=(pt 0 _ hg' hk.1).2 y hy;rw[hk.2]at this;omega
 ·rw[yU h];omega
def ren (l:List InsP)(x:InsP):InsP:=(x.1,x.2.1,if 14<=x.2.1/\x.2.1<=18 then cJ l x.2.2 else x.2.2)
def cq (l:List InsP):List InsP:=(cQ 0 l).map (ren l)
def Kw {f:InsP->InsP}(hf:∀ x,(f x).1=x.1/\(f x).2.1=x.2.1):∀(a:Int) (l:List InsP),(fy a l->fy a (l.map f))/\dy a (l.map f)=dy a l/\(lJ l->lJ (l.map f))
 |a,[]=>⟨id,rfl,id⟩
 | a,x::l=>by
   obtain⟨e1,e2⟩:=hf x;obtain⟨h1,h2,h3⟩:=Kw hf (a+1+a_ x.2.1) l;simp only[bL,fy,dy,lJ,e1,e2]
   refine⟨fun h=>⟨h.1,h1 h.2⟩,h2,fun h=>⟨fun h0=>by rw[h.1 h0];rfl,h3 h.2⟩⟩
def Kx (l:List InsP)(x:InsP):(ren l x).1=x.1/\(ren l x).2.1=x.2.1:=⟨rfl,rfl⟩
def zbw {f:InsP->InsP}(hf:∀ x,(f x).1=x.1/\(f x).2.1=x.2.1){l:List InsP}{p:Int}:dP (l.map f) p↔dP l p:=by
 constructor
 ·rintro⟨x,hx,e⟩;obtain⟨y,hy,rfl⟩:=List.mem_map.1 hx;exact⟨y,hy,by rw[<-(hf y).1];exact e⟩
 ·rintro⟨y,hy,e⟩;exact⟨f y,List.mem_map_of_mem hy,by rw[(hf y).1];exact e⟩
def Dt (l:List InsP):fy 0 (cq l)/\dy 0 (cq l)=fA 0 l/\lJ (cq l):=by
 obtain⟨h1,h2⟩:=yS 0 l;obtain⟨r1,r2,r3⟩:=Kw (Kx l) 0 (cQ 0 l);exact⟨r1 h1,r2.trans h2,r3 (Dq 0 l)⟩
def Du {l:List InsP}{p:Int}(h:dP l p):dP (cq l) (cJ l p):=(zbw (Kx l)).2 (Ku h)
def Dv {l:List InsP}{y:InsP}(h:y∈cq l):∃x∈l,y.2.1=x.2.1/\y.2.2=if 14<=x.2.1/\x.2.1<=18 then cJ l x.2.2 else x.2.2:=by
 obtain⟨z,hz,rfl⟩:=List.mem_map.1 h;obtain⟨x,hx,e⟩:=uc 0 l z hz;refine⟨x,hx,?_,?_⟩
 ·show z.2.1=_;rw[e]
 ·show(if 14<=z.2.1/\z.2.1<=18 then cJ l z.2.2 else z.2.2)=_;rw[e]
def Dw {l:List InsP}(hg:∀ x∈l,jt x)(he:dy 0 l<=65535):∀y∈cq l,jt y:=by
 intro y hy;have hg':=fun x hx=>(hg x hx).1
 obtain⟨x,hx,e1,e2⟩:=Dv hy;obtain⟨h0,h1,h2,h3,h4⟩:=hg x hx;have hr:=Kv hg' x.2.2;have hk:=(pv 0 0 l hg').2;unfold jt;rw[e1,e2];by_cases hj:14<=x.2.1/\x.2.1<=18
 ·have ha:a_ x.2.1=2:=by unfold a_;rw[if_neg (by omega),if_neg (by omega),if_pos (by omega)]
  rw[if_pos hj,ha];exact⟨by omega,fun h=>by omega,fun h=>by omega,fun _ h=>by omega,fun _ _=>by omega⟩
 ·rw[if_neg hj];exact⟨h0,h1,h2,h3,h4⟩
def Dx:∀(a:Int) (l:List InsP),fy a l->lJ l->cQ a l=l/\dg a l=l.map (fun x=>(x.1,x.1))/\fA a l=dy a l
 |a,[],_,_=>⟨rfl,rfl,rfl⟩
 | a,x::l,hp,hn=>by
   have hc:¬(x.2.1=0/\l≠[]):=fun h=>h.2 (hn.1 h.1)
   obtain⟨h1,h2,h3⟩:=Dx _ l hp.2 hn.2;unfold cQ dg fA dy;rw[if_neg hc,if_neg hc,h1,h2,h3,bL,<-hp.1];exact⟨rfl,rfl,rfl⟩
def Ky {l:List InsP}(hp:fy 0 l)(hn:lJ l){p:Int}(h:dP l p\/p=dy 0 l):cJ l p=p:=by
 obtain⟨h1,h2,h3⟩:=Dx 0 l hp hn;by_cases ho:dP l p
 ·obtain⟨q,hq,e1,e2⟩:=ud ho;rw[h2]at hq;obtain⟨x,_,rfl⟩:=List.mem_map.1 hq;rw[e2];exact e1
 ·rw[yU ho,h3];exact(h.resolve_left ho).symm
def zWM {l:List InsP}(hp:fy 0 l)(hn:lJ l)(hj:∀ x∈l,14<=x.2.1/\x.2.1<=18->dP l x.2.2):cq l=l:=by
 unfold cq;rw[(Dx 0 l hp hn).1];refine(List.map_congr_left fun x hx=>?_).trans (List.map_id l);show ren l x=x;unfold ren;by_cases h:14<=x.2.1/\x.2.1<=18
 ·rw[if_pos h,Ky hp hn (.inl (hj x hx h))]
 ·rw[if_neg h]
def yV {s:List UInt8}(h:(bx s).2=ad):(bx s).1≠[]/\(∀x∈(bx s).1,jt x)/\fy 0 (bx s).1/\dy 0 (bx s).1=s.length:=by
 unfold bx at h ⊢;cases ho:d_ s.length 0 s with
 |none=>rw[ho]at h;cases h
 | some l=>
   cases l with
   |nil=>rw[ho]at h;cases h
   | cons x l=>
     simp only
     obtain⟨h1,h2,h3⟩:=Kt _ _ _ _ ho;exact⟨by simp,h1,h2,by omega⟩
def Dy {l:List InsP}(hne:l≠[])(hg:∀ x∈l,jt x)(hp:fy 0 l):bx (enc l)=(l,ad):=by
 unfold bx;rw[Ks l 0 _ hg hp (bI _)];cases l with
 |nil=>exact absurd rfl hne
 |cons x l=>rfl
def ju (l:List InsP)(t:TrpP):TrpP:=(cJ l t.1,cJ l t.2.1,cJ l t.2.2.1,t.2.2.2)
def ff (l:List InsP)(ts:List TrpP):List TrpP:=(ts.map (ju l)).filter fun t=>aa (t.1<t.2.1)
def iI (l:List InsP)(f:FrmP):FrmP:=(cJ l f.1,f.2)
def eD (out:List FrmP)(f:FrmP):List FrmP:=(if 0<out.length/\(out.getD (out.length-1) (0,[],[])).1=f.1 then out.take (out.length-1)else out)++[f]
def fg (l:List InsP)(fs:List FrmP):List FrmP:=(fs.map (iI l)).foldl eD []
def dI (m:MthP):MthP :=
 (m.1,m.2.1,m.2.2.1,m.2.2.2.1,m.2.2.2.2.1,enc (cq (bx m.2.2.2.2.2.1).1),ff (bx m.2.2.2.2.2.1).1 m.2.2.2.2.2.2.1,fg (bx m.2.2.2.2.2.1).1 m.2.2.2.2.2.2.2)
def zbx {out:List FrmP}{g:FrmP}:(out++[g]).getD ((out++[g]).length-1) (0,[],[])=g:=by
 rw[List.getD_eq_getElem?_getD,aR,List.length_singleton,Nat.add_sub_cancel,List.getElem?_append_right (bI _),Nat.sub_self];rfl
def Dz (out:List FrmP)(g f:FrmP):eD (out++[g]) f=if g.1=f.1 then out++[f]else out++[g]++[f]:=by
 unfold eD;rw[zbx];by_cases h:g.1=f.1
 ·rw[if_pos ⟨by simp,h⟩,if_pos h];simp
 ·rw[if_neg fun h'=>h h'.2,if_neg h]
def Kz (f:FrmP):eD [] f=[f]:=rfl
def KA:∀(rest out:List FrmP),out.Pairwise (fun a b=>a.1<b.1)->(∀f∈rest,∀o∈out,o.1<=f.1)->rest.Pairwise (fun a b=>a.1<=b.1) ->
  (rest.foldl eD out).Pairwise (fun a b=>a.1<b.1)/\(∀f∈rest.foldl eD out,f∈out\/f∈rest)/\(rest.foldl eD out).length<=out.length+rest.length
 |[],out,h1,_,_=>⟨h1,fun f hf=>.inl hf,by simp⟩
 | f::rest,out,h1,h2,h3=>by
   have h3:=List.pairwise_cons.1 h3;rw[List.foldl_cons]
   have key:(eD out f).Pairwise (fun a b=>a.1<b.1)/\(∀o∈eD out f,o.1<=f.1/\(o∈out\/o=f))/\(eD out f).length<=out.length+1:=by
    rcases List.eq_nil_or_concat out with rfl|⟨ys,g,hg⟩
    ·rw[Kz];exact⟨by simp,fun o ho=>by rw[List.mem_singleton.1 ho];exact⟨Int.le_refl _,.inr rfl⟩,by simp⟩
    ·rw[List.concat_eq_append]at hg;subst hg;have hgl:=h2 f (by simp) g (by simp);have hp:=List.pairwise_append.1 h1;rw[Dz];by_cases e:g.1=f.1
     ·rw[if_pos e];refine⟨List.pairwise_append.2 ⟨hp.1,by simp,fun a ha b hb=>?_⟩,fun o ho=>?_,by simp⟩
      ·rw[List.mem_singleton.1 hb,<-e];exact hp.2.2 a ha g (by simp)
      ·rcases List.mem_append.1 ho with ho|ho
       ·exact⟨h2 f (by simp) o (by simp[ho]),.inl (by simp[ho])⟩
       ·rw[List.mem_singleton.1 ho];exact⟨Int.le_refl _,.inr rfl⟩
     ·rw[if_neg e];refine⟨List.pairwise_append.2 ⟨h1,by simp,fun a ha b hb=>?_⟩,fun o ho=>?_,by simp⟩
      ·rw[List.mem_singleton.1 hb];rcases List.mem_append.1 ha with ha|ha
       ·have:=hp.2.2 a ha g (by simp);omega
       ·rw[List.mem_singleton.1 ha];omega
      ·rcases List.mem_append.1 ho with ho|ho
       ·exact⟨h2 f (by simp) o ho,.inl ho⟩
       ·rw[List.mem_singleton.1 ho];exact⟨Int.le_refl _,.inr rfl⟩
   obtain⟨k1,k2,k3⟩:=key;obtain⟨r1,r2,r3⟩:=KA rest (eD out f) k1 (fun x hx o ho=>Int.le_trans (k2 o ho).1 (h3.1 x hx)) h3.2;refine⟨r1,fun x hx=>?_,?_⟩
   ·rcases r2 x hx with h|h
    ·rcases(k2 x h).2 with h|h
     ·exact .inl h
     ·exact .inr (by simp[h])
    ·exact .inr (by simp[h])
   ·simp only[bD];omega
def KB:∀(rest out:List FrmP),(out++rest).Pairwise (fun a b=>a.1<b.1)->rest.foldl eD out=out++rest
 |[],out,_=>by simp
 | f::rest,out,h=>by
   rw[List.foldl_cons]
   have e:eD out f=out++[f]:=by
    rcases List.eq_nil_or_concat out with rfl|⟨ys,g,hg⟩
    ·rfl
    ·rw[List.concat_eq_append]at hg;subst hg;rw[Dz,if_neg];have:=(List.pairwise_append.1 h).2.2 g (by simp) f (by simp);omega
   rw[e,KB rest (out++[f]) (by simpa using h)];simp
def KC (p:List Ent)(deep locals:Int)(f:FrmP):Prop:=(f.2.1.length:Int)=locals/\(f.2.2.length:Int)<=deep/\dO p f.2.1/\dO p f.2.2
def rf {fs:List FrmP}{i:Nat}(h:i<fs.length):fs.getD i (0,[],[])=fs[i]:=by
 rw[List.getD_eq_getElem?_getD,bt h];rfl
def yW {p:List Ent}{m:MthP}{l:List InsP}:pk p m l↔(∀f∈m.2.2.2.2.2.2.2,dP l f.1/\KC p m.2.2.2.1 m.2.2.2.2.1 f)/\m.2.2.2.2.2.2.2.Pairwise (fun a b=>a.1<b.1):=by
 obtain⟨m0,m1,m2,m3,m4,m5,m6,fs⟩:=m;unfold pk;simp only[qV]
 constructor
 ·intro h;refine⟨fun f hf=>?_,?_⟩
  ·obtain⟨i,hi,rfl⟩:=List.mem_iff_getElem.1 hf;obtain⟨h1,_,h3⟩:=h i hi;rw[rf hi]at h1 h3;exact⟨(iH _ _).1 h1,h3⟩
  ·have key:∀j,∀i (hj:j<fs.length) (hij:i<j),(fs[i]'(by omega)).1<fs[j].1:=by
    intro j
    induction j with
    |zero=>intro i hj hij;omega
    | succ j ih=>
      intro i hj hij;have h2:=(h (j+1) hj).2.1 (by omega);rw[rf hj,Nat.add_sub_cancel,rf (by omega)]at h2;by_cases e:i=j
      ·subst e;exact h2
      ·exact Int.lt_trans (ih i (by omega) (by omega)) h2
   exact List.pairwise_iff_getElem.2 fun i j hi hj hij=>key j i hj hij
 ·rintro⟨h1,h2⟩ i hi;obtain⟨k1,k2⟩:=h1 fs[i] (List.getElem_mem hi);rw[rf hi];refine⟨(iH _ _).2 k1,fun h0=>?_,k2⟩;rw[rf (by omega)];exact List.pairwise_iff_getElem.1 h2 (i-1) i (by omega) hi (by omega)
def DA {p:List Ent}{m:MthP}(h:eB p m)(hlen:m.2.2.2.2.2.1.length<=65535) :
  eB p (dI m)/\(dI m).2.2.2.2.2.1.length<=m.2.2.2.2.2.1.length/\(dI m).2.2.2.2.2.2.1.length<=m.2.2.2.2.2.2.1.length/\(dI m).2.2.2.2.2.2.2.length<=m.2.2.2.2.2.2.2.length /\
  dI (dI m)=dI m/\lJ (bx (dI m).2.2.2.2.2.1).1/\(∀t∈(dI m).2.2.2.2.2.2.1,∃t'∈m.2.2.2.2.2.2.1,t.2.2.2=t'.2.2.2/\0<=t.1/\t.1<=m.2.2.2.2.2.1.length/\0<=t.2.1/\t.2.1<=m.2.2.2.2.2.1.length/\0<=t.2.2.1/\t.2.2.1<=m.2.2.2.2.2.1.length) /\
  (∀f∈(dI m).2.2.2.2.2.2.2,∃f'∈m.2.2.2.2.2.2.2,f.2=f'.2/\0<=f.1/\f.1<=m.2.2.2.2.2.1.length):=by
 obtain⟨m0,m1,m2,m3,m4,code,traps,frames⟩:=m;obtain⟨ho,hd,htk,hin,htr,hfr⟩:=h;simp only at ho hd hin htr hlen;obtain⟨hne,hg,hp,hend⟩:=yV ho;have hfr:=yW.1 hfr;simp only at hfr;have e:dI (m0,m1,m2,m3,m4,code,traps,frames)=(m0,m1,m2,m3,m4,enc (cq (bx code).1),ff (bx code).1 traps,fg (bx code).1 frames):=rfl;rw[e];have htk:lH p (m0,m1,m2,m3,m4,enc (cq (bx code).1),ff (bx code).1 traps,fg (bx code).1 frames)<=m4/\m4<=8:=htk;generalize (bx code).1=l at hne hg hp hend hin htr hfr htk;have hg0:∀x∈l,0<=a_ x.2.1:=fun x hx=>(hg x hx).1
 have hK:=pv 0 0 l hg0;obtain⟨t1,t2,t3⟩:=Dt l;have tg:=Dw hg (by omega);have tne:cq l≠[]:=fun h=>Dp 0 l hne (List.map_eq_nil_iff.1 h)
 have hv:=Dy tne tg t1;have hle:=Dm (cq l) 0 tg;have hran:=Kv hg0;have hmap:∀{q:Int},0<=bf l q->0<=bf (cq l) (cJ l q):=fun hq=>(iH _ _).2 (Du ((iH _ _).1 hq))
 have hjmp:∀y∈cq l,14<=y.2.1/\y.2.1<=18->dP (cq l) y.2.2:=by
  intro y hy hj;obtain⟨x,hx,e1,e2⟩:=Dv hy;rw[e1]at hj;rw[e2,if_pos hj];exact Du ((iH _ _).1 ((hin x hx).2.1 hj))
 have hT:∀t∈ff l traps,∃t'∈traps,t=ju l t'/\t.1<t.2.1:=by
  intro t ht;obtain⟨h1,h2⟩:=List.mem_filter.1 ht;obtain⟨t',h3,rfl⟩:=List.mem_map.1 h1;exact⟨t',h3,rfl,by simpa using h2⟩
 have hend':∀q,(q=(code.length:Int)\/0<=bf l q)->(cJ l q=((enc (cq l)).length:Int)\/0<=bf (cq l) (cJ l q)):=by
  intro q hq;by_cases hq':0<=bf l q
  ·exact .inr (hmap hq')
  ·left;rw[yU fun h=>hq' ((iH _ _).2 h)];omega
 have hTok:∀t∈ff l traps,iE p (enc (cq l)).length (cq l) t:=by
  intro t ht;obtain⟨t',h1,rfl,h2⟩:=hT t ht;obtain⟨a1,a2,a3,a4,a5⟩:=htr t' h1;exact⟨h2,hmap a2,hend' _ a3,hmap a4,a5⟩
 have hmono:(frames.map (iI l)).Pairwise (fun a b=>a.1<=b.1):=by
  rw[List.pairwise_map];refine List.Pairwise.imp_of_mem (fun{a b} ha hb hab=>?_) hfr.2;exact zbv hg0 hp (hfr.1 a ha).1 (hfr.1 b hb).1 hab
 obtain⟨f1,f2,f3⟩:=KA (frames.map (iI l)) [] List.Pairwise.nil (by simp) hmono
 have hF:∀f∈fg l frames,∃f'∈frames,f=iI l f':=by
  intro f hf;rcases f2 f hf with h|h
  ·cases h
  ·obtain⟨f',h1,rfl⟩:=List.mem_map.1 h;exact⟨f',h1,rfl⟩
 have hFok:∀f∈fg l frames,dP (cq l) f.1/\KC p m3 m4 f:=by
  intro f hf;obtain⟨f',h1,rfl⟩:=hF f hf;exact⟨Du (hfr.1 f' h1).1,(hfr.1 f' h1).2⟩
 refine⟨⟨by rw[hv],hd,htk,?_,?_,?_⟩,?_,?_,?_,?_,?_,?_,?_⟩
 ·simp only[hv]
  intro y hy;obtain⟨x,hx,e1,e2⟩:=Dv hy;obtain⟨b1,b2,b3⟩:=hin x hx;refine⟨fun h=>?_,fun h=>(iH _ _).2 (hjmp y hy h),fun h=>?_⟩
  ·rw[e1]at h;rw[e2,if_neg (by omega)];exact b1 h
  ·rw[e1]at h ⊢
   have hnj:¬(14<=x.2.1/\x.2.1<=18):=fun hj=>h (by
    unfold cx
    rw[if_neg (by omega),if_neg (by omega),if_neg (by omega),if_neg (by omega)])
   rw[e2,if_neg hnj];exact b3 h
 ·simp only[hv];exact hTok
 ·simp only[hv]
  exact yW.2 ⟨hFok,f1⟩
 ·simp only;omega
 ·simp only
  exact Nat.le_trans (List.length_filter_le _ _) (by simp)
 ·simp only
  have:(fg l frames).length<=[].length+(frames.map (iI l)).length:=f3;simpa using this
 ·
  show dI (m0,m1,m2,m3,m4,enc (cq l),ff l traps,fg l frames)=_;unfold dI;simp only[hv]
  rw[zWM t1 t3 hjmp];have es:∀q,(dP (cq l) q\/q=dy 0 (cq l))->cJ (cq l) q=q:=fun q hq=>Ky t1 t3 hq
  have e1:ff (cq l) (ff l traps)=ff l traps:=by
   have hm:(ff l traps).map (ju (cq l))=ff l traps:=by
    refine(List.map_congr_left fun t ht=>?_).trans (List.map_id _);obtain⟨a1,a2,a3,a4,a5⟩:=hTok t ht;show ju (cq l) t=t;unfold ju;rw[es _ (.inl ((iH _ _).1 a2)),es _ (.inl ((iH _ _).1 a4)),es];rcases a3 with a3|a3
    ·right;omega
    ·exact .inl ((iH _ _).1 a3)
   show((ff l traps).map (ju (cq l))).filter _=_;rw[hm]
   exact List.filter_eq_self.2 fun t ht=>by
    obtain⟨_,_,_,h⟩:=hT t ht;simpa using h
  have e2:fg (cq l) (fg l frames)=fg l frames:=by
   have hm:(fg l frames).map (iI (cq l))=fg l frames:=by
    refine(List.map_congr_left fun f hf=>?_).trans (List.map_id _);show iI (cq l) f=f;unfold iI;rw[es _ (.inl (hFok f hf).1)]
   show((fg l frames).map (iI (cq l))).foldl eD []=_;rw[hm,KB _ _ (by rw[dz];exact f1)];simp
  rw[e1,e2]
 ·simp only[hv];exact t3
 ·intro t ht;obtain⟨t',h1,rfl,_⟩:=hT t ht;have r1:=hran t'.1;have r2:=hran t'.2.1;have r3:=hran t'.2.2.1;exact⟨t',h1,rfl,r1.1,by simp only[ju];omega,r2.1,by simp only[ju];omega,r3.1,by simp only[ju];omega⟩
 ·intro f hf;obtain⟨f',h1,rfl⟩:=hF f hf;have r1:=hran f'.1;exact⟨f',h1,rfl,r1.1,by simp only[iI];omega⟩
end
end Go.Stow
section
namespace Go.Stow
inductive fN (S:Nat->Int->Prop)(X:Nat->Int->Nat->Int->Prop):Nat->Int->Prop
 |zero:fN S X 0 0
 |step {k n k' n'}:fN S X k n->S k n->X k n k' n'->fN S X k' n'
def Bd (S:Nat->Int->Prop)(X:Nat->Int->Nat->Int->Prop):Prop:=(∃k n,fN S X k n/\¬S k n)\/∃k n n',fN S X k n/\fN S X k n'/\n≠n'
def Cl (S:Nat->Int->Prop)(X:Nat->Int->Nat->Int->Prop)(A:List Int)(k:Nat):Prop:=S k (A.getD k (-1))/\∀k' n',X k (A.getD k (-1)) k' n'->A.getD k' (-1)=n'
def Js (S:Nat->Int->Prop)(X:Nat->Int->Nat->Int->Prop)(A:List Int):Prop:=∀k,-1<=A.getD k (-1)/\(0<=A.getD k (-1)->¬Bd S X->fN S X k (A.getD k (-1)))
def Gd (S:Nat->Int->Prop)(X:Nat->Int->Nat->Int->Prop)(A:List Int):Prop:=A.getD 0 (-1)=0/\Js S X A/\∀k,0<=A.getD k (-1)->Cl S X A k
section
variable {S:Nat->Int->Prop}{X:Nat->Int->Nat->Int->Prop}{A B:List Int}
def Gd.all (h:Gd S X A)(hn:∀ k n k' n',X k n k' n'->0<=n->S k n->0<=n'){k n}(r:fN S X k n):A.getD k (-1)=n/\0<=n/\S k n:=by
 induction r with
 |zero=>exact⟨h.1,Int.le_refl _,by have:=(h.2.2 0 (by rw[h.1];exact Int.le_refl _)).1;rwa[h.1]at this⟩
 | @step k n k' n' hr hs hx ih=>
   obtain⟨e,h0,_⟩:=ih;have hc:=(h.2.2 k (by rw[e];exact h0)).2 k' n' (by rw[e];exact hx);have h1:=hn _ _ _ _ hx h0 hs;refine⟨hc,h1,?_⟩;have:=(h.2.2 k' (by rw[hc];exact h1)).1;rwa[hc]at this
def Gd.fine (h:Gd S X A)(hn:∀ k n k' n',X k n k' n'->0<=n->S k n->0<=n'):¬Bd S X:=by
 rintro(⟨k,n,hr,hs⟩|⟨k,n,n',h1,h2,hne⟩)
 ·exact hs (h.all hn hr).2.2
 ·exact hne ((h.all hn h1).1.symm.trans (h.all hn h2).1)
def Gd.same (h:Gd S X A)(g:Gd S X B)(hn:∀ k n k' n',X k n k' n'->0<=n->S k n->0<=n')(hl:A.length=B.length):A=B:=by
 refine List.ext_getElem hl fun k h1 h2=>?_
 have ea:A.getD k (-1)=A[k]:=by rw[List.getD_eq_getElem?_getD,bt h1];rfl
 have eb:B.getD k (-1)=B[k]:=by rw[List.getD_eq_getElem?_getD,bt h2];rfl
 rw[<-ea,<-eb];by_cases ha:0<=A.getD k (-1)
 ·exact(g.all hn ((h.2.1 k).2 ha (h.fine hn))).1.symm
 ·by_cases hb:0<=B.getD k (-1)
  ·exact(h.all hn ((g.2.1 k).2 hb (h.fine hn))).1
  ·have:=(h.2.1 k).1;have:=(g.2.1 k).1;omega
def nT (A:List Int)(k j:Nat)(v:Int)(hk:k<A.length):(A.set k v).getD j (-1)=if j=k then v else A.getD j (-1):=by
 rw[List.getD_eq_getElem?_getD,List.getElem?_set,List.getD_eq_getElem?_getD];by_cases h:j=k
 ·subst h;rw[if_pos rfl,if_pos rfl,if_pos hk];rfl
 ·rw[if_neg fun e=>h e.symm,if_neg h]
def mK (A:List Int):Nat:=(A.filter fun x=>aa (x<0)).length
def KE (A:List Int)(k:Nat)(v:Int)(hk:k<A.length)(h:A.getD k (-1)<0)(hv:0<=v):mK (A.set k v)+1=mK A:=by
 induction A generalizing k with
 |nil=>exact absurd hk (Nat.not_lt_zero _)
 | cons x A ih=>
   cases k with
   | zero=>
     have hx:x<0:=h;unfold mK;rw[List.set_cons_zero,List.filter_cons,List.filter_cons,if_neg (by simpa using hv),if_pos (by simpa using hx)];rfl
   | succ k=>
     have:=ih k (by simpa using hk) h;unfold mK at this ⊢;rw[List.set_cons_succ,List.filter_cons,List.filter_cons];split
     ·rw[bD,bD];omega
     ·exact this
def Up (A B:List Int):Prop:=B.length=A.length/\mK B<=mK A/\∀k,0<=A.getD k (-1)->B.getD k (-1)=A.getD k (-1)
def D1 (A:List Int):Up A A:=⟨rfl,bI _,fun _ _=>rfl⟩
def Up.trans {A B C:List Int}(h:Up A B)(g:Up B C):Up A C:=⟨g.1.trans h.1,Nat.le_trans g.2.1 h.2.1,fun k hk=>(g.2.2 k (by rw[h.2.2 k hk];exact hk)).trans (h.2.2 k hk)⟩
def Up.set {A:List Int}{k:Nat}{v:Int}(hk:k<A.length)(h:A.getD k (-1)<0)(hv:0<=v):Up A (A.set k v):=by
 refine⟨List.length_set,by have:=KE A k v hk h hv;omega,fun j hj=>?_⟩;rw[nT A k j v hk,if_neg];rintro rfl;omega
def Cl.up (hn:∀ k n k' n',X k n k' n'->0<=n->S k n->0<=n'){k:Nat}(h:Cl S X A k)(h0:0<=A.getD k (-1))(u:Up A B):Cl S X B k:=by
 have e:=u.2.2 k h0;refine⟨by rw[e];exact h.1,fun k' n' hx=>?_⟩;rw[e]at hx;have h1:=h.2 k' n' hx;rw[<-h1];exact u.2.2 k' (by rw[h1];exact hn _ _ _ _ hx h0 h.1)
def Js.set {k:Nat}{v:Int}(h:Js S X A)(hk:k<A.length)(hv:0<=v)(hr:¬ Bd S X->fN S X k v):Js S X (A.set k v):=by
 intro j;rw[nT A k j v hk];by_cases e:j=k
 ·subst e;rw[if_pos rfl];exact⟨by omega,fun _ h=>hr h⟩
 ·rw[if_neg e];exact h j
end
end Go.Stow
end
section
namespace Go.Stow
def yX (op:Int):Int×Int:=if op=1\/op=2\/op=3\/op=5\/op=19\/op=22 then(0,1)else if op=8 then(1,2)else if op=9 then(2,2)else if 10<=op/\op<=13 then(2,1)else if op=17\/op=21 then(2,0)else if op=20\/op=28\/op=29 then(1,1)else if op=0\/op=18\/op=32 then(0,0)else(1,0)
noncomputable def rh (p:List Ent)(i:Int):List (List UInt8)×List UInt8×Bool:=ib (bq p (bb p (bb p i).2.2.2).2.2.2)
noncomputable def ei (p:List Ent)(x:InsP):Int×Int:=if 24<=x.2.1/\x.2.1<=27 then(if x.2.1=26 then((rh p x.2.2).1.length:Int)else(rh p x.2.2).1.length+1,if(rh p x.2.2).2.1=[86]then 0 else 1)else yX x.2.1
end Go.Stow
namespace Go.Proofs.YtdpapeledldifaaGreat
open Go Go.AM Go.TM Go.Stow
def DB (p:List Stow.Ent)(x:InsP):(0<=(ei p x).1/\(ei p x).1<=5)/\0<=(ei p x).2/\(ei p x).2<=2:=by
 have hd:(rh p x.2.2).1.length<=4:=t_ _;unfold ei yX
 repeat' split
 all_goals (simp only;omega)
def KF {op:Int}(h:0<=op/\op<=34)(hc:¬ (24<=op/\op<=27)):op=0\/op=1\/op=2\/op=3\/op=4\/op=5\/op=6\/op=7\/op=8\/op=9\/op=10\/op=11\/op=12\/op=13\/op=14\/op=15\/op=16\/op=17\/op=18\/op=19\/op=20\/op=21\/op=22\/op=23\/op=28\/op=29\/op=30\/op=31\/op=32\/op=33\/op=34:=by omega
def zby (c:Cls)(x:InsP)(hp:cj c.1)(h0:0<=a_ x.2.1):yp (c,x)=U (ei c.1 x):=by
 obtain⟨c0,c1,c2,c3,c4,c5,c6⟩:=c;obtain⟨x0,op,i⟩:=x;simp only at hp h0;have hd:=t_ (bq c0 (bb c0 (bb c0 i).2.2.2).2.2.2);have ho:0<=op/\op<=34:=(lI op).2 h0;simp only[yp,i4,J9 _ _ hp,Dc _ (jP hp _),av,aF,bT,aP,eg,aJ,aT]
 unfold ei yX rh;simp only
 by_cases hc:24<=op/\op<=27
 ·rw[if_pos hc,if_pos hc];by_cases h6:op=26
  ·rw[if_pos h6,if_pos h6];split<;>rfl
  ·rw[if_neg h6,if_neg h6,wI (by omega) (by omega)];split<;>rfl
 ·rw[if_neg hc,if_neg hc];rcases KF ho hc with rfl|rfl|rfl|rfl|rfl|rfl|rfl|rfl|rfl|rfl|rfl|rfl|rfl|rfl|rfl|rfl|rfl|rfl|rfl|rfl|rfl|rfl|rfl|rfl|rfl|rfl|rfl|rfl|rfl|rfl|rfl
  all_goals rfl
def zbz (c:Cls)(i:Int)(hp:cj c.1):yi (c,i)=U (bU c.1 (bb c.1 i).2.2.1,bU c.1 (bb c.1 (bb c.1 i).2.2.2).2.2.1,bU c.1 (bb c.1 (bb c.1 i).2.2.2).2.2.2):=by
 obtain⟨c0,c1,c2,c3,c4,c5,c6⟩:=c;simp only[yi]
 rw[gy (jO c0 i hp.1)];simp only
 rw[gy (jO c0 _ hp.1)];simp only[po _ _ hp,av,eq_self,ay,ck,aC,bQ]
def zbA (c:Cls)(x:InsP)(s:List UInt8)(hp:cj c.1)(hok:kV c.1)(h0:0<=a_ x.2.1)(hw:cx x.2.1≠0->(bb c.1 x.2.2).1=cx x.2.1):yj (c,x,s)=U (ei c.1 x):=by
 have z255:=zbz c x.2.2 hp;obtain⟨c0,c1,c2,c3,c4,c5,c6⟩:=c;obtain⟨x0,op,i⟩:=x;simp only at hp h0 hok hw z255;have hd:=t_ (bq c0 (bb c0 (bb c0 i).2.2.2).2.2.2);have ho:0<=op/\op<=34:=(lI op).2 h0;simp only[yj,jr,av,aF,bT,aP,eg,aJ,aT]
 by_cases hc:24<=op/\op<=27
 ·have ht:(bb c0 (bb c0 (bb c0 i).2.2.2).2.2.2).1=1:=by
   have hw':(bb c0 i).1=5\/(bb c0 i).1=6:=by
    have:cx op=5\/cx op=6:=by unfold cx;repeat' split
                              all_goals first|omega|(exfalso;omega)
    rcases this with h|h
    ·exact .inl ((hw (by omega)).trans h)
    ·exact .inr ((hw (by omega)).trans h)
   obtain⟨k,hk,e⟩:=JX (p:=c0) (i:=i) (by omega);have he:=hok k hk;rw[<-e]at he;unfold eV at he;rw[if_neg (by omega),if_neg (by omega),if_neg (by omega),if_neg (by omega),if_pos hw']at he;exact he.2.2.2.1
  have n1:¬op=1:=by omega
  simp (discharger:=omega) only[show ¬op=1 by omega,show ¬op=2 by omega,show ¬op=3 by omega,show ¬op=5 by omega,show ¬op=19 by omega,show ¬op=22 by omega,show ¬op=8 by omega,show ¬op=9 by omega,show ¬(10<=op/\op<=13)by omega,show ¬op=17 by omega,show ¬op=21 by omega,show ¬op=20 by omega,show ¬op=28 by omega,show ¬op=29 by omega,show ¬op=0 by omega,show ¬op=18 by omega,show ¬op=32 by omega,hc,and_self,if_true,if_false]
  rw[z255];simp only[av,gx ht,Df _ (jP hp _)]
  unfold ei rh;simp only
  rw[if_pos hc];by_cases h6:op=26
  ·rw[if_pos h6,if_pos h6];split<;>rfl
  ·rw[if_neg h6,if_neg h6,wI (by omega) (by omega)];split<;>rfl
 ·unfold ei yX;simp only
  simp only[hc,if_false]
  rcases KF ho hc with rfl|rfl|rfl|rfl|rfl|rfl|rfl|rfl|rfl|rfl|rfl|rfl|rfl|rfl|rfl|rfl|rfl|rfl|rfl|rfl|rfl|rfl|rfl|rfl|rfl|rfl|rfl|rfl|rfl|rfl|rfl
  all_goals rfl
end Go.Proofs.YtdpapeledldifaaGreat
end
section
namespace Go.Stow
def gA (op:Int):Prop:=op=18\/(30<=op/\op<=33)
instance (op:Int):Decidable (gA op):=inferInstanceAs (Decidable (_\/_))
section
variable (p:List Ent)(L:List InsP)(tr:List TrpP)(D:Int)
def dS (k:Nat)(n:Int):Prop:=∃x,L[k]? = U x/\(ei p x).1<=n/\n-(ei p x).1+(ei p x).2<=D/\(¬gA x.2.1->k+1<L.length)/\∀t∈tr,t.1<=x.1->x.1<t.2.1->1<=D
def dX (k:Nat)(n:Int)(k':Nat)(n':Int):Prop:=∃x,L[k]? = U x/\((¬gA x.2.1/\k'=k+1/\n'=n-(ei p x).1+(ei p x).2) \/
 ((14<=x.2.1/\x.2.1<=18)/\(k':Int)=bf L x.2.2/\n'=n-(ei p x).1+(ei p x).2)\/∃t∈tr,t.1<=x.1/\x.1<t.2.1/\(k':Int)=bf L t.2.2.1/\n'=1)
def nU (n:Int):Prop:=L≠[]/\(∀x∈L,0<=a_ x.2.1)/\fy 0 L/\dy 0 L=n/\(∀x∈L,cx x.2.1≠0->(bb p x.2.2).1=cx x.2.1)/\(∀x∈L,14<=x.2.1/\x.2.1<=18->0<=bf L x.2.2)/\(∀t∈tr,0<=bf L t.2.2.1)/\D<=255 /\ -255<=D/\L.length<=1000/\tr.length<=1000
end
end Go.Stow
namespace Go.Proofs.YtdpapeledldifaaGreat
open Go Go.AM Go.TM Go.Stow
section
variable {p:List Stow.Ent}{L:List InsP}{tr:List TrpP}{D:Int}
def rj:∀k n k' n',dX p L tr k n k' n'->0<=n->dS p L tr D k n->0<=n':=by
 rintro k n k' n' ⟨x,hx,h⟩ h0 ⟨y,hy,h1,h2,-⟩;obtain rfl:x=y:=Option.some.inj (hx.symm.trans hy);have hm:=(DB p x).2;rcases h with⟨-,-,rfl⟩|⟨-,-,rfl⟩|⟨t,-,-,-,-,rfl⟩
 ·omega
 ·omega
 ·omega
def DC (L:List InsP)(a:Int):bf L a<L.length:=by
 unfold bf;cases h:L.findIdx? (fun x=>aa (x.1=a))with
 |none=>simp only;omega
 | some j=>
   simp only
   rw[List.findIdx?_eq_some_iff_getElem]at h;obtain⟨h1,-⟩:=h;omega
def KG:∀(a:Int) (l:List InsP),(∀x∈l,0<=a_ x.2.1)->fy a l->∀(i j:Nat) (hi:i<l.length) (hj:j<l.length),l[i].1=l[j].1->i=j
 |a,[],_,_=>fun i j hi=>absurd hi (Nat.not_lt_zero _)
 | a,x::l,hg,hp=>fun i j hi hj e=>by
   have hx:=hg x (by simp);have hr:=(pt _ l (fun y hy=>hg y (by simp[hy])) hp.2).2;have hxa:=hp.1;cases i with
   | zero=>
     cases j with
     |zero=>rfl
     | succ j=>
       simp only[List.getElem_cons_zero,List.getElem_cons_succ]at e;have:=hr _ (List.getElem_mem (by simpa using hj:j<l.length));omega
   | succ i=>
     cases j with
     | zero=>
       simp only[List.getElem_cons_zero,List.getElem_cons_succ]at e;have:=hr _ (List.getElem_mem (by simpa using hi:i<l.length));omega
     | succ j=>
       simp only[List.getElem_cons_succ]at e;rw[KG _ l (fun y hy=>hg y (by simp[hy])) hp.2 i j (by simpa using hi) (by simpa using hj) e]
def KH {n:Int}(h:nU p L tr D n){k:Nat}(hk:k<L.length):bf L L[k].1=k:=by
 have h0:=(iH L L[k].1).2 ⟨L[k],List.getElem_mem hk,rfl⟩;revert h0;unfold bf;cases e:L.findIdx? (fun x=>aa (x.1=L[k].1))with
 |none=>simp only;omega
 | some j=>
   intro _;simp only
   rw[List.findIdx?_eq_some_iff_getElem]at e;obtain⟨h1,h2,-⟩:=e;simp only[aI]at h2;rw[KG 0 L h.2.1 h.2.2.1 j k h1 hk h2]
def zbB {n:Int}(h:nU p L tr D n):bf L n<0:=by
 refine Int.not_le.1 fun h0=>?_
 obtain⟨x,hx,e⟩:=(iH L n).1 h0;have:=((pt 0 L h.2.1 h.2.2.1).2 x hx).2;rw[h.2.2.2.1]at this;omega
def KI {n:Int}(h:nU p L tr D n):bf L 0=0:=by
 have hk:0<L.length:=List.length_pos_iff.2 h.1
 have e:L[0].1=0:=by
  have:=h.2.2.1;cases L with
  |nil=>exact absurd rfl h.1
  |cons x l=>exact this.1
 have:=KH h hk;rw[e]at this;exact this
end
end Go.Proofs.YtdpapeledldifaaGreat
end
section
namespace Go.TM
open Go.AM
section
variable {α X Y R S:Type}
def KJ {a b:List α}{x:α}{k:α->Option R}:aq (a++x::b) a.length k=k x:=pe (by simp)
def KK {a b:List α}{x v:α}:(a++x::b).set a.length v=a++v::b:=by simp
def KL {f:X->Option (X⊕(Y⊕R))}(mk:Nat->List α->X)(fin:List α->Y)(g:α->α)(l:List α){x0:X}{c:Y->Option R}(hx:x0=mk 0 l)(hl:l.length<=1048576)
  (hend:∀a,a.length=l.length->f (mk a.length a)=U (.inr (.inl (fin a))))
  (hstep:∀a x b,x∈l->a.length+b.length+1=l.length->f (mk a.length (a++x::b))=U (.inl (mk (a.length+1) (a++g x::b)))) :
  bindE (aD f x0) c=c (fin (l.map g)):=by
 have key:∀(s a:List α),(∀x∈s,x∈l)->a.length+s.length=l.length->aD f (mk a.length (a++s))=U (.inl (fin (a++s.map g))):=by
  intro s
  induction s with
  |nil=>intro a _ h;rw[eJ,cN,hend _ (by simpa using h)];simp
  | cons x s ih=>
    intro a hs h;simp only[bD]at h;rw[eJ,hstep a x s (hs x (by simp)) (by omega)];simp only
    have:=ih (a++[g x]) (fun y hy=>hs y (by simp[hy])) (by simp;omega);simp only[aR,bD,cW,b_,cD,dz,Nat.zero_add]at this;rw[this];simp
 have:=key l [] (fun _ h=>h) (by simp);simp only[cW,dz]at this;rw[hx,this,aJ]
def pw {f:X->Option (X⊕(Y⊕R))}(mk:Nat->X)(fin:Y)(n:Nat){x0:X}{c:Y->Option R}(hx:x0=mk 0)(hend:f (mk n)=U (.inr (.inl fin)))(hstep:∀ i,i<n->f (mk i)=U (.inl (mk (i+1)))) :
  bindE (aD f x0) c=c fin:=by
 have key:∀m i,i+m=n->aD f (mk i)=U (.inl fin):=by
  intro m
  induction m with
  |zero=>intro i h;have:i=n:=by omega
         subst this;rw[eJ,hend]
  |succ m ih=>intro i h;rw[eJ,hstep i (by omega)];exact ih (i+1) (by omega)
 rw[hx,key n 0 (by omega),aJ]
end
end Go.TM
end
section
namespace Go.TM
def px {α:Type}{a:List α}:((a.length:Int)<(a.length:Int))=False:=by simp
end Go.TM
namespace Go.Proofs.YtdpapeledldifaaGreat
open Go Go.AM Go.TM
def wn {n:Nat}(h1:n<=1048576):IntKind.wrap .i64 ((n:Int)+1)=((n+1:Nat):Int):=by rw[wI (by omega) (by omega)];rfl
def gB {a b:Nat}(ha:a<=1048577)(hb:b<=128):(aa (a<=9223372036854775807)&&aa (a*b<=140737488355328))=ad:=by
 have:a*b<=1048577*128:=Nat.mul_le_mul ha hb;simp only[aG,aI];omega
def cl {α:Type}{b:Nat}(s:List α)(hl:s.length<=1048576)(hb:b<=128):ah (aa (s.length=0)) (cm (U []) (af (aa (s.length<=9223372036854775807)&&aa (s.length*b<=140737488355328)) (U s))) (af (aa (s.length<=9223372036854775807)&&aa (s.length*b<=140737488355328)) (U s))=U s:=by
 rw[gB (by omega) hb];cases s with
 |nil=>simp only[cW,ay,aP,aC];exact mA _
 |cons x l=>simp[aC]
def zbC (l:List Cst)(h:l.length<=1048576):CE l=U l:=cl l h (by omega)
def zbD (l:List Int)(h:l.length<=1048576):CF l=U l:=cl l h (by omega)
def zbE (l:List Fld)(h:l.length<=1048576):CG l=U l:=cl l h (by omega)
def zbF (l:List Mth)(h:l.length<=1048576):CH l=U l:=cl l h (by omega)
def zbG (l:List Trp)(h:l.length<=1048576):CI l=U l:=cl l h (by omega)
def zbH (l:List Frm)(h:l.length<=1048576):CJ l=U l:=cl l h (by omega)
def KM (l:List Knd)(h:l.length<=1048576):yu l=U l:=cl l h (by omega)
def j92 (c:Cls)(h:fK c):yv c=U c:=by
 obtain⟨c0,c1,c2,c3,c4,c5,c6⟩:=c;obtain⟨⟨h1,_⟩,h2,h3,h4,h5⟩:=h;simp only at h1 h2 h3 h4 h5;simp only[yv,zbC c0 h1,zbD c4 h2,zbE c5 h3,zbF c6 h4,av,ay,aC,bQ]
 refine(pw (fun i=>((c6.length:Int),(i:Int),(c0,c1,c2,c3,c4,c5),([],0,0,0,[],[],[]),c6,i)) ((c0,c1,c2,c3,c4,c5,c6),([],0,0,0,[],[],[])) c6.length rfl ?_ (fun i hi=>?_)).trans rfl
 ·simp only[px,bm,aQ,ay,aC,Jv]
 ·have i1:(i:Int)<c6.length:=by omega
  have hb:=h5 _ (List.getElem_mem hi);have hs:c6.set i c6[i]=c6:=List.set_getElem_self hi;simp only[i1,ay,aP,ko,aC,bp,aY,bE hi,bI]
  generalize c6[i]=m at hb hs;obtain⟨m0,m1,m2,m3,m4,m5,m6,m7⟩:=m;obtain⟨_,b1,b2,b3⟩:=hb;simp only at b1 b2 b3;simp only[zbG m6 b1,zbH m7 b2,av,bQ,hi,ay,bp,aC]
  refine(congrArg (bindE · _) (pw (fun k=>((i:Int),(c6.length:Int),(i:Int),m7,(m7.length:Int),(k:Int),(c0,c1,c2,c3,c4,c5),([],0,0,0,[],[],[]),(c6,i,m0,m1,m2,m3,m4,m5,m6),m7,k))
   ((c6.length:Int),(i:Int),(c0,c1,c2,c3,c4,c5),([],0,0,0,[],[],[]),c6,i+1) m7.length rfl ?_ (fun k hk=>?_))).trans ?_
  ·simp only[px,bm,aQ,ay,aC,Jv,hi,bp,hs]
  ·have k1:(k:Int)<m7.length:=by omega
   obtain⟨d1,d2⟩:=b3 _ (List.getElem_mem hk);have ds:m7.set k (m7[k].1,m7[k].2.1,m7[k].2.2)=m7:=List.set_getElem_self hk;simp only[k1,i1,ay,aP,ko,aC,bp,aY,bE hk,hi,hk,KM _ d1,KM _ d2,av,bQ,beq_self_eq_true,ds,wn (show k<=1048576 by omega)]
  ·simp only[aJ,wn (show i<=1048576 by omega)]
end Go.Proofs.YtdpapeledldifaaGreat
end
namespace Go.Proofs.YtdpapeledldifaaGreat
section
open Go Go.AM Go.TM
def yY {f:Int}(h0:0<=f)(h1:f<=255):cI f=ad↔g_ f:=by
 unfold cI g_;have e:Int.tdiv (Int.tmod f 16) 8=f % 16 / 8:=by rw[Int.tmod_eq_emod_of_nonneg h0,Int.tdiv_eq_ediv_of_nonneg (by omega)]
 rw[e,wI (by omega) (by omega),aI]
end
end Go.Proofs.YtdpapeledldifaaGreat
