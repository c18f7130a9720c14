/- Part 32 of the proof of FnDeep; no condition. -/
import Derived.Test.YtdpapeledldifaaGreatX30
open Option renaming some -> U
open Decidable renaming decide -> aa
open Bool renaming true -> ad
open Bool renaming false -> ag
open Option renaming none -> aj
open Sum renaming inl -> an
open Sum renaming inr -> ao
open List renaming length -> au
open Int renaming toNat -> aH
open List renaming drop -> kZ
open List renaming take -> nY
set_option autoImplicit true
set_option relaxedAutoImplicit true
set_option linter.all false
namespace Go.Proofs.YtdpapeledldifaaGreat
section
open Go Go.AM Go.TM Go.Stow
def q87 (c:Cls)(m:Mth)(hp:cj c.1)(hok:kV c.1)(hm:0<=m.1/\m.1<=255)(hb:lF m)(h120:m.2.2.2.2.2.1.length<=120)(hfr:∀ f∈m.2.2.2.2.2.2.2,qT f)(hd:ch c.1 m.2.2.1 Dsc):tP (c,m)=U (aa (eB c.1 m)):=by
 obtain⟨c0,c1,c2,c3,c4,c5,c6⟩:=c;obtain⟨m0,m1,m2,m3,m4,m5,m6,m7⟩:=m;obtain⟨hm0,hm1⟩:=hm;obtain⟨b1,b2,b3,b4⟩:=hb;simp only at hp hok hm0 hm1 b1 b2 b3 b4 h120 hfr hd;have hlen:=pq m5;have hB:eB c0 (m0,m1,m2,m3,m4,m5,m6,m7)↔((bx m5).2=ad/\m3<=8/\(lH c0 (m0,m1,m2,m3,m4,m5,m6,m7)<=m4/\m4<=8)/\(∀x∈(bx m5).1,jq c0 m4 (bx m5).1 x)/\(∀t∈m6,iE c0 m5.length (bx m5).1 t)/\pk c0 (m0,m1,m2,m3,m4,m5,m6,m7) (bx m5).1):=Iff.rfl;have z111:∀i,df ((c0,c1,c2,c3,c4,c5,c6),i)=U (bU c0 i):=fun i=>po (c0,c1,c2,c3,c4,c5,c6) i hp
 have z162:∀i,kP ((c0,c1,c2,c3,c4,c5,c6),i)=U (aa ((bb c0 i).1=2)):=fun i=>Dh (c0,c1,c2,c3,c4,c5,c6) i hp
 have z124:∀k,gv (c0,k)=U (bb c0 k):=fun k=>jO c0 k hp.1
 have hdl:=t_ (bq c0 m2);have hT:lH c0 (m0,m1,m2,m3,m4,m5,m6,m7)=if aO m0 1 then((ib (bq c0 m2)).1.length:Int)else(ib (bq c0 m2)).1.length+1:=rfl
 simp only[tP,yR _ h120,z111,gx hd.1,Df _ (jP hp _),av,aF,bT,za3 hm0 hm1]
 rw[show(if ¬aO m0 1 then U (Sum.inl ((bx m5).1,(bx m5).2,IntKind.wrap .i64 (((ib (bq c0 m2)).1.length:Int)+1),(c0,c1,c2,c3,c4,c5,c6),m0,m1,m2,m3,m4,m5,m6,m7))else U (Sum.inl ((bx m5).1,(bx m5).2,((ib (bq c0 m2)).1.length:Int),(c0,c1,c2,c3,c4,c5,c6),m0,m1,m2,m3,m4,m5,m6,m7)):Option ((List InsP×Bool×Int×Cls×Mth)⊕Bool))=U (Sum.inl ((bx m5).1,(bx m5).2,lH c0 (m0,m1,m2,m3,m4,m5,m6,m7),(c0,c1,c2,c3,c4,c5,c6),m0,m1,m2,m3,m4,m5,m6,m7))by
  rw[hT];by_cases h:aO m0 1
  ·rw[if_neg (by simp[h]),if_pos h]
  ·rw[if_pos h,if_neg h,wI (by omega) (by omega)],aJ]
 generalize lH c0 (m0,m1,m2,m3,m4,m5,m6,m7)=need at hB;generalize hv:bx m5=v at hlen hB;obtain⟨ops,ok⟩:=v;simp only at hlen hB ⊢;have hol:ops.length<=1048576:=by omega
 cases ok with
 | false=>
   rw[aQ,aT];exact sd (by rw[hB];exact iff_of_false (by simp) fun h=>by cases h.1)
 | true=>
   rw[aP];by_cases h1:8<m3
   ·rw[if_pos h1,aT];exact sd (by rw[hB];exact iff_of_false (by simp) fun h=>by omega)
   rw[if_neg h1];simp only[jr,av,aF]
   by_cases h2:need<=m4/\m4<=8
   ·rw[if_pos h2,aJ];simp only
    refine i5 (fun i=>((ops.length:Int),(i:Int),(c0,c1,c2,c3,c4,c5,c6),(m0,m1,m2,m3,m4,m5,m6,m7),ops)) (ops,(c0,c1,c2,c3,c4,c5,c6),m0,m1,m2,m3,m4,m5,m6,m7) ag ops.length (fun i=>jq c0 m4 ops (ops.getD i (0,0,0))) rfl ?_ ?_ ?_ ?_
    ·simp only[bG,if_false]
    ·intro i hi;have i1:(i:Int)<ops.length:=by omega
     have i0:(0:Int)<=i:=by omega
     simp only[i1,i0,if_true,ay,bp,aC,aY]
     rw[ed (0,0,0) hi];generalize ops.getD i (0,0,0)=x;obtain⟨x0,x1,x2⟩:=x;have hI:jq c0 m4 ops (x0,x1,x2)↔((3<=x1/\x1<=6->x2<m4)/\(14<=x1/\x1<=18->0<=bf ops x2)/\(cx x1≠0->(bb c0 x2).1=cx x1)):=Iff.rfl;rw[hI];simp only[zbs,pc,jr,ub _ _ hol,z124,av,aF,bT]
     have hfin:∀F:Option ((Int×Int×Cls×Mth×List InsP)⊕((Int×Int×Cls×Mth×List InsP)⊕((List InsP×Cls×Mth)⊕Bool)))->Option ((Int×Int×Cls×Mth×List InsP)⊕((List InsP×Cls×Mth)⊕Bool)),
       F (U (.inr (.inr (.inr ag))))=U (.inr (.inr ag))->F (U (.inl ((ops.length:Int),(i:Int),(c0,c1,c2,c3,c4,c5,c6),(m0,m1,m2,m3,m4,m5,m6,m7),ops)))=U (.inl ((ops.length:Int),((i+1:Nat):Int),(c0,c1,c2,c3,c4,c5,c6),(m0,m1,m2,m3,m4,m5,m6,m7),ops)) ->
       (3<=x1/\x1<=6->x2<m4)->(14<=x1/\x1<=18->0<=bf ops x2) ->
       (((3<=x1/\x1<=6->x2<m4)/\(14<=x1/\x1<=18->0<=bf ops x2)/\(cx x1≠0->(bb c0 x2).1=cx x1))/\F (if cx x1=0 then U (.inl ((ops.length:Int),(i:Int),(c0,c1,c2,c3,c4,c5,c6),(m0,m1,m2,m3,m4,m5,m6,m7),ops))else if(bb c0 x2).1=cx x1 then U (.inl ((ops.length:Int),(i:Int),(c0,c1,c2,c3,c4,c5,c6),(m0,m1,m2,m3,m4,m5,m6,m7),ops))else U (.inr (.inr (.inr ag))))=U (.inl ((ops.length:Int),((i+1:Nat):Int),(c0,c1,c2,c3,c4,c5,c6),(m0,m1,m2,m3,m4,m5,m6,m7),ops))) \/
       (¬((3<=x1/\x1<=6->x2<m4)/\(14<=x1/\x1<=18->0<=bf ops x2)/\(cx x1≠0->(bb c0 x2).1=cx x1))/\F (if cx x1=0 then U (.inl ((ops.length:Int),(i:Int),(c0,c1,c2,c3,c4,c5,c6),(m0,m1,m2,m3,m4,m5,m6,m7),ops))else if(bb c0 x2).1=cx x1 then U (.inl ((ops.length:Int),(i:Int),(c0,c1,c2,c3,c4,c5,c6),(m0,m1,m2,m3,m4,m5,m6,m7),ops))else U (.inr (.inr (.inr ag))))=U (.inr (.inr ag))):=by
      intro F f1 f2 k1 k2;by_cases h3:cx x1=0
      ·rw[if_pos h3];exact .inl ⟨⟨k1,k2,fun h=>absurd h3 h⟩,f2⟩
      ·rw[if_neg h3];by_cases h4:(bb c0 x2).1=cx x1
       ·rw[if_pos h4];exact .inl ⟨⟨k1,k2,fun _=>h4⟩,f2⟩
       ·rw[if_neg h4];exact .inr ⟨fun h=>h4 (h.2.2 h3),f1⟩
     have f2:bindE (U (.inl ((ops.length:Int),(i:Int),(c0,c1,c2,c3,c4,c5,c6),(m0,m1,m2,m3,m4,m5,m6,m7),ops)):Option ((Int×Int×Cls×Mth×List InsP)⊕((Int×Int×Cls×Mth×List InsP)⊕((List InsP×Cls×Mth)⊕Bool)))) (fun x=>U (.inl (x.1,IntKind.wrap .i64 (x.2.1+1),x.2.2.1,x.2.2.2.1,x.2.2.2.2)))=U (.inl ((ops.length:Int),((i+1:Nat):Int),(c0,c1,c2,c3,c4,c5,c6),(m0,m1,m2,m3,m4,m5,m6,m7),ops)):=by
      simp only[aJ]
      rw[wI (by omega) (by omega)];rfl
     by_cases k1:3<=x1/\x1<=6
     ·rw[if_pos k1];by_cases k2:m4<=x2
      ·rw[if_pos k2];exact .inr ⟨fun h=>by have:=h.1 k1;omega,rfl⟩
      ·rw[if_neg k2];have k3:¬(14<=x1/\x1<=18):=by omega
       rw[if_neg k3];exact hfin (bindE · _) rfl f2 (fun _=>by omega) fun h=>absurd h k3
     ·rw[if_neg k1];by_cases k3:14<=x1/\x1<=18
      ·rw[if_pos k3];by_cases k4:bf ops x2<0
       ·rw[if_pos k4];exact .inr ⟨fun h=>by have:=h.2.1 k3;omega,rfl⟩
       ·rw[if_neg k4];exact hfin (bindE · _) rfl f2 (fun h=>absurd h k1) fun _=>by omega
      ·rw[if_neg k3];exact hfin (bindE · _) rfl f2 (fun h=>absurd h k1) fun h=>absurd h k3
    ·intro hins;have hins:=(eC (P:=fun x=>jq c0 m4 ops x) (0,0,0)).2 hins;simp only
     refine i5 (fun i=>(ops,m6,(m6.length:Int),(i:Int),(c0,c1,c2,c3,c4,c5,c6),m0,m1,m2,m3,m4,m5,m6,m7)) (ops,(c0,c1,c2,c3,c4,c5,c6),m0,m1,m2,m3,m4,m5,m6,m7) ag m6.length (fun i=>iE c0 m5.length ops (m6.getD i (0,0,0,0))) rfl ?_ ?_ ?_ ?_
     ·simp only[bG,if_false]
     ·intro i hi;have i1:(i:Int)<m6.length:=by omega
      have i0:(0:Int)<=i:=by omega
      simp only[i1,i0,if_true,ay,bp,aC,aY]
      rw[ed (0,0,0,0) hi];generalize m6.getD i (0,0,0,0)=x;obtain⟨t0,t1,t2,t3⟩:=x;have hI:iE c0 m5.length ops (t0,t1,t2,t3)↔(t0<t1/\0<=bf ops t0/\(t1=(m5.length:Int)\/0<=bf ops t1)/\0<=bf ops t2/\(t3=0\/cO c0 t3)):=Iff.rfl;rw[hI];simp only[ub _ _ hol,z162,av,aF,bT]
      have f2:bindE (U (.inl (ops,m6,(m6.length:Int),(i:Int),(c0,c1,c2,c3,c4,c5,c6),m0,m1,m2,m3,m4,m5,m6,m7)):Option ((List InsP×List Trp×Int×Int×Cls×Mth)⊕((List InsP×List Trp×Int×Int×Cls×Mth)⊕((List InsP×Cls×Mth)⊕Bool)))) (fun x=>U (.inl (x.1,x.2.1,x.2.2.1,IntKind.wrap .i64 (x.2.2.2.1+1),x.2.2.2.2.1,x.2.2.2.2.2)))=U (.inl (ops,m6,(m6.length:Int),((i+1:Nat):Int),(c0,c1,c2,c3,c4,c5,c6),m0,m1,m2,m3,m4,m5,m6,m7)):=by
       simp only[aJ]
       rw[wI (by omega) (by omega)];rfl
      by_cases k1:t1<=t0
      ·rw[if_pos k1];exact .inr ⟨fun h=>by omega,rfl⟩
      rw[if_neg k1];by_cases k2:bf ops t0<0
      ·rw[if_pos k2];exact .inr ⟨fun h=>by omega,rfl⟩
      rw[if_neg k2];by_cases k3:bf ops t2<0
      ·rw[if_pos k3];exact .inr ⟨fun h=>by omega,rfl⟩
      rw[if_neg k3];by_cases k4:bf ops t1<0
      ·rw[if_pos k4];by_cases k5:t1=(m5.length:Int)
       ·rw[if_pos k5];by_cases k6:t3=0
        ·rw[if_pos k6];exact .inl ⟨⟨by omega,by omega,.inl k5,by omega,.inl k6⟩,f2⟩
        ·rw[if_neg k6];by_cases k7:(bb c0 t3).1=2
         ·rw[if_pos k7];exact .inl ⟨⟨by omega,by omega,.inl k5,by omega,.inr (hok.cls.2 k7)⟩,f2⟩
         ·rw[if_neg k7];exact .inr ⟨fun h=>k7 (h.2.2.2.2.resolve_left k6).1,rfl⟩
       ·rw[if_neg k5];exact .inr ⟨fun h=>h.2.2.1.elim k5 fun h=>by omega,rfl⟩
      ·rw[if_neg k4];by_cases k6:t3=0
       ·rw[if_pos k6];exact .inl ⟨⟨by omega,by omega,.inr (by omega),by omega,.inl k6⟩,f2⟩
       ·rw[if_neg k6];by_cases k7:(bb c0 t3).1=2
        ·rw[if_pos k7];exact .inl ⟨⟨by omega,by omega,.inr (by omega),by omega,.inr (hok.cls.2 k7)⟩,f2⟩
        ·rw[if_neg k7];exact .inr ⟨fun h=>k7 (h.2.2.2.2.resolve_left k6).1,rfl⟩
     ·intro htr;have htr:=(eC (P:=fun x=>iE c0 m5.length ops x) (0,0,0,0)).2 htr;simp only
      refine i5 (fun i=>(ops,(if i=0 then(-1:Int)else(m7.getD (i-1) (0,[],[])).1),m7,(m7.length:Int),(i:Int),(c0,c1,c2,c3,c4,c5,c6),m0,m1,m2,m3,m4,m5,m6,m7)) () ag m7.length (qV c0 (m0,m1,m2,m3,m4,m5,m6,m7) ops) rfl ?_ ?_ ?_ ?_
      ·simp only[bG,if_false]
      ·intro i hi;have i1:(i:Int)<m7.length:=by omega
       have i0:(0:Int)<=i:=by omega
       have hF:qV c0 (m0,m1,m2,m3,m4,m5,m6,m7) ops i↔(0<=bf ops (m7.getD i (0,[],[])).1/\(0<i->(m7.getD (i-1) (0,[],[])).1<(m7.getD i (0,[],[])).1)/\((m7.getD i (0,[],[])).2.1.length:Int)=m4/\((m7.getD i (0,[],[])).2.2.length:Int)<=m3/\dO c0 (m7.getD i (0,[],[])).2.1/\dO c0 (m7.getD i (0,[],[])).2.2):=Iff.rfl;have hff:qT (m7.getD i (0,[],[])):=(eC (P:=qT) (0,[],[])).1 hfr i hi
       have hnx:∀y:Int,y=(m7.getD i (0,[],[])).1->y=(if i+1=0 then(-1:Int)else(m7.getD (i+1-1) (0,[],[])).1):=by
        intro y hy;rw[if_neg (by omega),Nat.add_sub_cancel];exact hy
       simp only[i1,i0,if_true,ay,aC,aY]
       rw[ed (0,[],[]) hi];rw[hF];generalize m7.getD i (0,[],[])=x at hff hnx
       have hpr:(x.1<=(if i=0 then(-1:Int)else(m7.getD (i-1) (0,[],[])).1))↔¬(0<i->(m7.getD (i-1) (0,[],[])).1<x.1):=by
        have:=hff.1.1;by_cases h0:i=0
        ·rw[if_pos h0];exact iff_of_false (by omega) fun h=>h fun h'=>absurd h' (by omega)
        ·rw[if_neg h0];exact⟨fun h h'=>by have:=h' (by omega);omega,fun h=>Classical.byContradiction fun h'=>h fun _=>by omega⟩
       generalize (if i=0 then(-1:Int)else(m7.getD (i-1) (0,[],[])).1)=before at hpr;have z1:pd ((c0,c1,c2,c3,c4,c5,c6),x.2.1)=U (aa (dO c0 x.2.1)):=Ko (c0,c1,c2,c3,c4,c5,c6) x.2.1 hp hok (by have:=hff.2.1.1;omega) fun k hk=>(hff.2.1.2 k hk).1
       have z2:pd ((c0,c1,c2,c3,c4,c5,c6),x.2.2)=U (aa (dO c0 x.2.2)):=Ko (c0,c1,c2,c3,c4,c5,c6) x.2.2 hp hok (by have:=hff.2.2.1;omega) fun k hk=>(hff.2.2.2 k hk).1
       simp only[ub _ _ hol,z1,z2,av,bT,aF]
       by_cases k1:bf ops x.1<0
       ·rw[if_pos k1];exact .inr ⟨fun h=>by omega,rfl⟩
       rw[if_neg k1];by_cases k2:x.1<=before
       ·rw[if_pos k2];exact .inr ⟨fun h=>(hpr.1 k2) h.2.1,rfl⟩
       rw[if_neg k2];have k2':=Classical.not_not.1 fun h=>k2 (hpr.2 h)
       by_cases k3:(x.2.1.length:Int)=m4
       ·rw[if_pos k3];by_cases k4:m3<(x.2.2.length:Int)
        ·rw[if_pos k4];exact .inr ⟨fun h=>by omega,rfl⟩
        rw[if_neg k4];by_cases k5:dO c0 x.2.1
        ·rw[if_pos k5];by_cases k6:dO c0 x.2.2
         ·rw[if_pos k6];refine .inl ⟨⟨by omega,k2',k3,by omega,k5,k6⟩,?_⟩;simp only[aJ]
          rw[wI (by omega) (by omega),<-hnx x.1 rfl];rfl
         ·rw[if_neg k6];exact .inr ⟨fun h=>k6 h.2.2.2.2.2,rfl⟩
        ·rw[if_neg k5];exact .inr ⟨fun h=>k5 h.2.2.2.2.1,rfl⟩
       ·rw[if_neg k3];exact .inr ⟨fun h=>k3 h.2.2.1,rfl⟩
      ·intro h;exact sd (by rw[hB];exact iff_of_true rfl ⟨rfl,by omega,h2,hins,htr,h⟩)
      ·intro h;exact sd (by rw[hB];exact iff_of_false (by simp) fun h'=>h h'.2.2.2.2.2)
     ·intro htr;exact sd (by rw[hB];exact iff_of_false (by simp) fun h=>htr ((eC (P:=fun x=>iE c0 m5.length ops x) (0,0,0,0)).1 h.2.2.2.2.1))
    ·intro hins;exact sd (by rw[hB];exact iff_of_false (by simp) fun h=>hins ((eC (P:=fun x=>jq c0 m4 ops x) (0,0,0)).1 h.2.2.2.1))
   ·rw[if_neg h2,aT];exact sd (by rw[hB];exact iff_of_false (by simp) fun h=>h2 h.2.2.1)
end
end Go.Proofs.YtdpapeledldifaaGreat
section
namespace Go.Stow
def KN {c:ClsP}(h:¬ dZ c.1 c.1.length 0=0):cP c=2:=by unfold cP;rw[if_pos h]
def KO {c:ClsP}(h1:dZ c.1 c.1.length 0=0)(h2:¬ fx c):cP c=3:=by
 unfold cP;rw[if_neg (show ¬dZ c.1 c.1.length 0≠0 from fun h=>h h1),if_pos h2]
def KP {c:ClsP}(h1:dZ c.1 c.1.length 0=0)(h2:fx c)(h3:¬ jo c):cP c=4:=by
 unfold cP;rw[if_neg (show ¬dZ c.1 c.1.length 0≠0 from fun h=>h h1),if_neg (show ¬ ¬fx c from fun h=>h h2),if_pos h3]
def KQ {c:ClsP}(h1:dZ c.1 c.1.length 0=0)(h2:fx c)(h3:jo c)(h4:¬ km c):cP c=5:=by
 unfold cP;rw[if_neg (show ¬dZ c.1 c.1.length 0≠0 from fun h=>h h1),if_neg (show ¬ ¬fx c from fun h=>h h2),if_neg (show ¬ ¬jo c from fun h=>h h3),if_pos h4]
def KR {c:ClsP}(h1:dZ c.1 c.1.length 0=0)(h2:fx c)(h3:jo c)(h4:km c)(h5:¬ mJ c):cP c=6:=by
 unfold cP;rw[if_neg (show ¬dZ c.1 c.1.length 0≠0 from fun h=>h h1),if_neg (show ¬ ¬fx c from fun h=>h h2),if_neg (show ¬ ¬jo c from fun h=>h h3),if_neg (show ¬ ¬km c from fun h=>h h4),if_pos h5]
def DD {c:ClsP}(h1:dZ c.1 c.1.length 0=0)(h2:fx c)(h3:jo c)(h4:km c)(h5:mJ c):cP c=0:=by
 unfold cP;rw[if_neg (show ¬dZ c.1 c.1.length 0≠0 from fun h=>h h1),if_neg (show ¬ ¬fx c from fun h=>h h2),if_neg (show ¬ ¬jo c from fun h=>h h3),if_neg (show ¬ ¬km c from fun h=>h h4),if_neg (show ¬ ¬mJ c from fun h=>h h5)]
end Go.Stow
namespace Go.Proofs.YtdpapeledldifaaGreat
open Go Go.AM Go.TM Go.Stow
def KS {c:Cls}(h:gd c):cj c.1:=by
 obtain⟨⟨f1,_⟩,h1,_⟩:=h;exact⟨by omega,fun x hx=>by have:=(h1 x hx).2.1;omega⟩
def KT (c:Cls)(h:gd c):tn c=U (cP c):=by
 have hp:=KS h;have hb:=qU h;obtain⟨⟨f1,f2,f3,f4⟩,_,hfl,_,_,_,_,hms⟩:=h;have hmf:∀m∈c.2.2.2.2.2.2,0<=m.1/\m.1<=255:=fun m hm=>(hms m hm).1
 have z15:=q15 c.1 hp f1;have z175:=za6 c hp hfl (by omega);have z176:=za9 c hp hfl (by omega);have z177:=zbf c hp hfl (by omega) hmf;have hbm:=hb.2.2.2.2;obtain⟨c0,c1,c2,c3,c4,c5,c6⟩:=c;simp only at f1 f2 f3 f4 hfl hmf hp z15 hbm;simp only[tn,z15,z175,z176,z177,av,bT,aF]
 by_cases h1:dZ c0 c0.length 0=0
 ·rw[if_pos h1];by_cases h2:fx (c0,c1,c2,c3,c4,c5,c6)
  ·rw[if_pos h2];by_cases h3:jo (c0,c1,c2,c3,c4,c5,c6)
   ·rw[if_pos h3];by_cases h4:km (c0,c1,c2,c3,c4,c5,c6)
    ·rw[if_pos h4];refine i5 (fun i=>((i:Int),c0,c1,c2,c3,c4,c5,c6)) () 6 c6.length (fun i=>¬aO (c6.getD i aN).1 8->eB c0 (c6.getD i aN)) rfl ?_ ?_ ?_ ?_
     ·simp only[bG,if_false]
     ·intro i hi;have i1:(i:Int)<c6.length:=by omega
      have i0:(0:Int)<=i:=by omega
      simp only[i1,i0,if_true,ay,aC,aY]
      rw[ed aN hi];have hm1:=(eC (P:=fun m:Mth=>0<=m.1/\m.1<=255) aN).1 hmf i hi;have hm2:=(eC (P:=lF) aN).1 hbm i hi;generalize c6.getD i aN=x at hm1 hm2;have z:tl ((c0,c1,c2,c3,c4,c5,c6),x.1,x.2.1,x.2.2.1,x.2.2.2.1,x.2.2.2.2.1,x.2.2.2.2.2.1,x.2.2.2.2.2.2.1,x.2.2.2.2.2.2.2)=U (aa (¬aO x.1 8->eB c0 x)):=zbr (c0,c1,c2,c3,c4,c5,c6) x hp hm1 hm2;rw[z];simp only[av,aF]
      by_cases e:¬aO x.1 8->eB c0 x
      ·rw[if_pos e,wI (by omega) (by omega)];exact .inl ⟨e,rfl⟩
      ·rw[if_neg e];exact .inr ⟨e,rfl⟩
     ·intro hall;rw[DD h1 h2 h3 h4 ((eC (P:=fun m:Mth=>¬aO m.1 8->eB c0 m) aN).2 hall)]
     ·intro hall;rw[KR h1 h2 h3 h4 fun h:mJ _=>hall ((eC (P:=fun m:Mth=>¬aO m.1 8->eB c0 m) aN).1 h)]
    ·rw[if_neg h4,KQ h1 h2 h3 h4]
   ·rw[if_neg h3,KP h1 h2 h3]
  ·rw[if_neg h2,KO h1 h2]
 ·rw[if_neg h1,KN h1]
def jQ {c:Cls}(h:put c≠[]):gd c:=by
 refine Classical.byContradiction fun hn=>h (kl fun hh=>hn hh.1)
def zbI (c:Cls)(h:fK c):yo c=U (if put c=[]then 1 else cP c):=by
 have z:=JQ c h;have z88:=fun hp:put c≠[]=>KT c (jQ hp)
 obtain⟨c0,c1,c2,c3,c4,c5,c6⟩:=c;simp only[yo,z,av,aF]
 by_cases hp:put (c0,c1,c2,c3,c4,c5,c6)=[]
 ·rw[if_pos hp,if_pos hp]
 ·rw[if_neg hp,if_neg hp,z88 hp,av]
def KU (c:Cls)(h:fK c):qM c=U (if put c=[]then 1 else cP c):=by
 have z:=zaQ c h;by_cases hpu:put c=[]
 ·obtain⟨c0,c1,c2,c3,c4,c5,c6⟩:=c;simp only[qM,z,av,aF]
  rw[if_pos hpu,if_pos hpu]
 have hf:=jQ hpu;have hp:=KS hf;have hb:=h;obtain⟨⟨f1,f2,f3,f4⟩,_,hfl,_,_,_,_,hms⟩:=hf;have hmf:∀m∈c.2.2.2.2.2.2,0<=m.1/\m.1<=255:=fun m hm=>(hms m hm).1
 have z14:=q14 c.1 hp f1;have z83:=fun hok=>q83 c hp hfl (by omega) hok
 have z84:=fun i hi=>q84 c i hp hfl (by omega) hi
 have z85:=fun i hi=>q85 c i hp hfl (by omega) hmf hi
 have hfi:=zba c;have hmi:=zbb c;have hbm:=hb.2.2.2.2;obtain⟨c0,c1,c2,c3,c4,c5,c6⟩:=c;simp only at f1 f2 f3 f4 hfl hmf hp z14 hbm z84 z85 hfi hmi hms z83;simp only[qM,z,z14,av,bT,aF]
 rw[if_neg hpu,if_neg hpu];by_cases h1:dZ c0 c0.length 0=0
 ·rw[if_pos h1];have hok:=C6.1 h1;rw[z83 hok,av,aF];by_cases h2:fx (c0,c1,c2,c3,c4,c5,c6)
  ·rw[if_pos h2];refine i5 (fun i=>((c5.length:Int),(i:Int),c0,c1,c2,c3,c4,c5,c6)) (c0,c1,c2,c3,c4,c5,c6) 4 c5.length (q_ (c0,c1,c2,c3,c4,c5,c6)) rfl ?_ ?_ ?_ ?_
   ·simp only[bG,if_false]
   ·intro i hi;have i1:(i:Int)<c5.length:=by omega
    simp only[i1,if_true,z84 i hi,av,aF]
    by_cases e:q_ (c0,c1,c2,c3,c4,c5,c6) i
    ·rw[if_pos e,wI (by omega) (by omega)];exact .inl ⟨e,rfl⟩
    ·rw[if_neg e];exact .inr ⟨e,rfl⟩
   ·intro hall0;simp only
    refine i5 (fun i=>((c6.length:Int),(i:Int),c0,c1,c2,c3,c4,c5,c6)) (c0,c1,c2,c3,c4,c5,c6) 5 c6.length (re (c0,c1,c2,c3,c4,c5,c6)) rfl ?_ ?_ ?_ ?_
    ·simp only[bG,if_false]
    ·intro i hi;have i1:(i:Int)<c6.length:=by omega
     simp only[i1,if_true,z85 i hi,av,aF]
     by_cases e:re (c0,c1,c2,c3,c4,c5,c6) i
     ·rw[if_pos e,wI (by omega) (by omega)];exact .inl ⟨e,rfl⟩
     ·rw[if_neg e];exact .inr ⟨e,rfl⟩
    ·intro hall2;simp only
     refine i5 (fun i=>(c6,(c6.length:Int),(i:Int),c0,c1,c2,c3,c4,c5,c6)) () 6 c6.length (fun i=>¬aO (c6.getD i aN).1 8->eB c0 (c6.getD i aN)) rfl ?_ ?_ ?_ ?_
     ·simp only[bG,if_false]
     ·intro i hi;have i1:(i:Int)<c6.length:=by omega
      have i0:(0:Int)<=i:=by omega
      simp only[i1,i0,if_true,ay,aC,aY]
      rw[ed aN hi];have hm1:=(eC (P:=fun m:Mth=>0<=m.1/\m.1<=255) aN).1 hmf i hi;have hm2:=(eC (P:=lF) aN).1 hbm i hi;have hm3:=(eC (P:=jm) aN).1 hms i hi;have hm4:ch c0 (c6.getD i aN).2.2.1 Dsc:=(hall2 i hi).2.1;generalize c6.getD i aN=x at hm1 hm2 hm3 hm4;have z87:tP ((c0,c1,c2,c3,c4,c5,c6),x.1,x.2.1,x.2.2.1,x.2.2.2.1,x.2.2.2.2.1,x.2.2.2.2.2.1,x.2.2.2.2.2.2.1,x.2.2.2.2.2.2.2)=U (aa (eB c0 x)):=q87 (c0,c1,c2,c3,c4,c5,c6) x hp hok hm1 hm2 hm3.2.2.2.2.2.1 hm3.2.2.2.2.2.2.2.2 hm4;rw[Dj _ hm1.1 hm1.2,av,aF];by_cases e1:aO x.1 8
      ·rw[if_pos e1];simp only[aJ]
       rw[wI (by omega) (by omega)];exact .inl ⟨fun h=>absurd e1 h,rfl⟩
      ·rw[if_neg e1,z87,av,aF];by_cases e:eB c0 x
       ·rw[if_pos e];simp only[aJ]
        rw[wI (by omega) (by omega)];exact .inl ⟨fun _=>e,rfl⟩
       ·rw[if_neg e];exact .inr ⟨fun h=>e (h e1),rfl⟩
     ·intro hall;rw[DD h1 h2 (hfi.1 hall0) (hmi.1 hall2) ((eC (P:=fun m:Mth=>¬aO m.1 8->eB c0 m) aN).2 hall)]
     ·intro hall;rw[KR h1 h2 (hfi.1 hall0) (hmi.1 hall2) fun h:mJ _=>hall ((eC (P:=fun m:Mth=>¬aO m.1 8->eB c0 m) aN).1 h)]
    ·intro hall2;rw[KQ h1 h2 (hfi.1 hall0) fun h=>hall2 (hmi.2 h)]
   ·intro hall;rw[KP h1 h2 fun h=>hall (hfi.2 h)]
  ·rw[if_neg h2,KO h1 h2]
 ·rw[if_neg h1,KN h1]
end Go.Proofs.YtdpapeledldifaaGreat
end
namespace Go.Proofs.YtdpapeledldifaaGreat
section
open Go Go.AM Go.TM Go.Stow
def KV {n:Int}(h0:0<=n)(h1:n<=255):IntKind.wrap .u8 n=n:=by
 have h:IntKind.wrap .u8 n=n % 256:=by
  simp[IntKind.wrap,IntKind.bits,IntKind.signed]
 rw[h];omega
def kX {n:Int}(h:i1 n)(r:List UInt8):g1 (w1 n++r)=U (n,r):=by
 unfold i1 at h;unfold w1;simp only[cD,dz,g1,KV h.1 h.2,UInt8.toNat_ofNat',aK,bH,and_true]
 omega
def ic {n:Int}(h:i2 n)(r:List UInt8):g2 (tS n++r)=U (n,r):=by
 unfold i2 at h;have hd:Int.tdiv n 256=n / 256:=Int.tdiv_eq_ediv_of_nonneg h.1;have hm:Int.tmod n 256=n % 256:=Int.tmod_eq_emod_of_nonneg h.1;unfold tS g2;rw[hd,hm,wI (by omega) (by omega),b_,kX (n:=n / 256) ⟨by omega,by omega⟩,bh,kX (n:=n % 256) ⟨by omega,by omega⟩,bh];simp only[aK,bH,and_true]
 omega
def DE (t r:List UInt8):gT (t.length:Int) (t++r)=U (t,r):=by
 unfold gT;rw[if_pos (by simp only[aR];omega),aY,List.take_left,List.drop_left]
def KW {β:Type}{g:List UInt8->Option (β×List UInt8)}{p:β->List UInt8}:∀(l:List β) (r:List UInt8),(∀x∈l,∀r,g (p x++r)=U (x,r))->bZ g l.length ((l.map p).flatten++r)=U (l,r)
 |[],r,_=>rfl
 | x::l,r,h=>by
   simp only[bL,List.flatten_cons,bD,bZ,b_]
   rw[h x (by simp),bh,KW l r fun y hy=>h y (by simp[hy])];rfl
def pz {β:Type}{g:List UInt8->Option (β×List UInt8)}{p:β->List UInt8}{most:Int}{l:List β}(hl:(l.length:Int)<=most)(h255:most<=255)(h:∀ x∈l,∀ r,g (p x++r)=U (x,r))(r:List UInt8) :
  cM most g (w1 l.length++((l.map p).flatten++r))=U (l,r):=by
 unfold cM;rw[kX ⟨by omega,by omega⟩,bh,if_neg (by simp only;omega)];simp only[aY]
 exact KW l r h
def ue (e:Cst):Prop:=if e.1=1 then e.2.2.1=0/\e.2.2.2=0 else if e.1=2 then e.2.1=[]/\e.2.2.2=0 else e.2.1=[]
def zbJ {p:List Cst}{e:Cst}(h:eV p e):ue e:=by
 unfold eV at h;unfold ue;by_cases h1:e.1=1
 ·rw[if_pos h1]at h ⊢;exact⟨h.1,h.2.1⟩
 ·rw[if_neg h1]at h ⊢;by_cases h2:e.1=2
  ·rw[if_pos h2]at h ⊢;exact⟨h.1,h.2.1⟩
  ·rw[if_neg h2]at h ⊢;split at h
   ·exact h.1
   ·split at h
    ·exact h.1
    ·split at h
     ·exact h.1
     ·exact h.elim
def zbK {e:Cst}(h:yB e)(hc:ue e)(r:List UInt8):gw (h_ tS e++r)=U (e,r):=by
 obtain⟨k,t,a,b⟩:=e;obtain⟨⟨h0,h1⟩,h2,h3,h4⟩:=h;simp only at h0 h1 h2 h3 h4;unfold ue at hc;simp only at hc;unfold gw h_;simp only
 rw[b_,kX ⟨by omega,by omega⟩,bh];unfold iT;simp only
 by_cases k1:k=1
 ·rw[if_pos k1]at hc;obtain⟨rfl,rfl⟩:=hc;rw[if_pos k1,if_pos k1,b_,kX ⟨by omega,by omega⟩,bh,DE];simp only[bh,k1]
 ·rw[if_neg k1]at hc;rw[if_neg k1,if_neg k1];by_cases k2:k=2
  ·rw[if_pos k2]at hc;obtain⟨rfl,rfl⟩:=hc;rw[if_pos k2,if_pos k2,ic h3];simp only[bh,k2]
  ·rw[if_neg k2]at hc;subst hc;rw[if_neg k2,if_neg k2,if_pos (by omega),b_,ic h3,bh,ic h4];rfl
def yZ (k:Knd):Prop:=k.1≠3->k.2=0
def zbL {k:Knd}(h:CV k)(hc:yZ k)(r:List UInt8):eh (jk tS k++r)=U (k,r):=by
 obtain⟨a,b⟩:=k;obtain⟨⟨h0,h1⟩,h2⟩:=h;simp only at h0 h1 h2;unfold eh jk;simp only
 rw[b_,kX ⟨by omega,by omega⟩,bh];simp only
 by_cases k3:a=3
 ·rw[if_pos k3,if_pos k3,ic h2];simp only[bh,k3]
 ·have:b=0:=hc k3;subst this;rw[if_neg k3,if_neg k3,if_neg (by omega)];rfl
def zbM {t:Trp}(h:CW t)(r:List UInt8):iU (ia tS t++r)=U (t,r):=by
 obtain⟨h1,h2,h3,h4⟩:=h;unfold iU ia;simp only[b_,ic h1,ic h2,ic h3,ic h4,bh]
def KX {l:List Knd}(h:yC l)(hc:∀ k∈l,yZ k)(r:List UInt8):cM 8 eh (kR tS l++r)=U (l,r):=by
 unfold kR;rw[b_];exact pz (by have:=h.1;omega) (by omega) (fun k hk r=>zbL (h.2 k hk) (hc k hk) r) r
def DF (f:Frm):Prop:=(∀k∈f.2.1,yZ k)/\∀k∈f.2.2,yZ k
def zbN {f:Frm}(h:qT f)(hc:DF f)(r:List UInt8):iV (ga tS f++r)=U (f,r):=by
 obtain⟨h1,h2,h3⟩:=h;unfold iV ga;simp only[b_]
 rw[ic h1,bh];simp only
 rw[KX h2 hc.1,bh];simp only
 rw[KX h3 hc.2,bh]
def zbO {f:Fld}(h:CX f)(r:List UInt8):iW (kj tS f++r)=U (f,r):=by
 obtain⟨h1,h2,h3⟩:=h;unfold iW kj;simp only[b_,kX h1,ic h2,ic h3,bh]
def DG (m:Mth):Prop:=(g_ m.1->m.2.2.2.1=0/\m.2.2.2.2.1=0/\m.2.2.2.2.2.1=[]/\m.2.2.2.2.2.2.1=[]/\m.2.2.2.2.2.2.2=[])/\∀f∈m.2.2.2.2.2.2.2,DF f
def zbP {m:Mth}(h:jm m)(hc:DG m)(r:List UInt8):f9 (dH tS cI m++r)=U (m,r):=by
 obtain⟨f,n,d,s,lo,code,tr,fr⟩:=m;obtain⟨h1,h2,h3,h4,h5,h6,⟨h7,h8⟩,h9,h10⟩:=h;simp only at h1 h2 h3 h4 h5 h6 h7 h8 h9 h10;unfold f9 dH;simp only[b_]
 rw[kX h1,bh];unfold m1;simp only
 rw[ic h2,bh];unfold m2;simp only
 rw[ic h3,bh];unfold m3;simp only
 by_cases ha:g_ f
 ·obtain⟨e1,e2,e3,e4,e5⟩:=hc.1 ha;simp only at e1 e2 e3 e4 e5;subst e1 e2 e3 e4 e5;rw[if_pos ((yY h1.1 h1.2).2 ha),if_pos ha];rfl
 ·rw[if_neg fun h=>ha ((yY h1.1 h1.2).1 h),if_neg ha];unfold qQ;simp only[b_]
  rw[kX h4,bh];unfold b3;simp only
  rw[kX h5,bh];unfold b4;simp only
  rw[ic ⟨by omega,by omega⟩,bh];unfold b5;simp only
  rw[if_neg (by omega),DE,bh];unfold b6;simp only
  rw[pz (by omega) (by omega) (fun t ht r=>zbM (h8 t ht) r),bh];unfold b7;simp only
  rw[pz (by omega) (by omega) (fun t ht r=>zbN (h10 t ht) (hc.2 t ht) r),bh]
def zbQ {c:Cls}(h:gd c)(hp:∀ e∈c.1,ue e)(hm:∀ m∈c.2.2.2.2.2.2,DG m):hZ (cH tS cI c)=U (c,[]):=by
 obtain⟨p,f,n,s,fa,fi,ms⟩:=c;obtain⟨⟨k1,k2,k3,k4⟩,h1,h2,h3,h4,h5,h6,h7⟩:=h;simp only at k1 k2 k3 k4 h1 h2 h3 h4 h5 h6 h7 hp hm;unfold hZ cH;have e4:((4:Int))=(([83,84,79,87]:List UInt8).length:Int):=rfl;rw[e4,DE,bh];unfold iY;simp only[not_true,if_false]
 unfold kQ;rw[pz (by omega) (by omega) (fun e he r=>zbK (h1 e he) (hp e he) r),bh];unfold iX;simp only
 rw[kX h2,bh];unfold mF;simp only
 rw[ic h3,bh];unfold fL;simp only
 rw[ic h4,bh];unfold yy;simp only
 rw[pz (by omega) (by omega) (fun e he r=>ic (h5 e he) r),bh];unfold hY;simp only
 rw[pz (by omega) (by omega) (fun e he r=>zbO (h6 e he) r),bh];unfold jN;simp only
 have:=pz (g:=f9) (p:=dH tS cI) (most:=6) (l:=ms) (by omega) (by omega) (fun e he r=>zbP (h7 e he) (hm e he) r) [];rw[cN]at this;rw[this,bh]
end
end Go.Proofs.YtdpapeledldifaaGreat
section
namespace Go.Stow
open Classical in
noncomputable def mL (c:ClsP):ClsP:=(c.1,c.2.1,c.2.2.1,c.2.2.2.1,c.2.2.2.2.1,c.2.2.2.2.2.1,c.2.2.2.2.2.2.map fun m=>if aO m.1 8 then m else dI m)
def KY (w:FrmP->Nat):∀(rest out:List FrmP),((rest.foldl eD out).map w).sum<=(out.map w).sum+(rest.map w).sum
 |[],out=>by simp
 | f::rest,out=>by
   have h1:=KY w rest (eD out f)
   have h2:((eD out f).map w).sum<=(out.map w).sum+w f:=by
    rcases List.eq_nil_or_concat out with rfl|⟨ys,g,hg⟩
    ·rw[Kz];simp
    ·rw[List.concat_eq_append]at hg;subst hg;rw[Dz];split<;>simp<;>omega
   rw[List.foldl_cons,bL,List.sum_cons];omega
def DH {α:Type}(P:α->List UInt8)(l:List α):((l.map P).flatten).length=(l.map fun x=>(P x).length).sum:=by
 induction l with
 |nil=>rfl
 |cons x l ih=>simp only[bL,List.flatten_cons,aR,List.sum_cons,ih]
def KZ {α:Type}(P:α->List UInt8)(g:α->α):∀(l:List α),(∀x∈l,(P (g x)).length<=(P x).length)->(((l.map g).map P).flatten).length<=((l.map P).flatten).length
 |[],_=>by simp
 | x::l,h=>by
   have h1:=h x (by simp);have h2:=KZ P g l fun y hy=>h y (by simp[hy])
   simp only[bL,List.flatten_cons,aR]
   omega
def pA {c:ClsP}(h:cP c=0):dZ c.1 c.1.length 0=0/\fx c/\jo c/\km c/\mJ c:=by
 unfold cP at h;by_cases h1:dZ c.1 c.1.length 0≠0
 ·rw[if_pos h1]at h;cases h
 ·rw[if_neg h1]at h;by_cases h2:¬fx c
  ·rw[if_pos h2]at h;cases h
  ·rw[if_neg h2]at h;by_cases h3:¬jo c
   ·rw[if_pos h3]at h;cases h
   ·rw[if_neg h3]at h;by_cases h4:¬km c
    ·rw[if_pos h4]at h;cases h
    ·rw[if_neg h4]at h;by_cases h5:¬mJ c
     ·rw[if_pos h5]at h;cases h
     ·exact⟨Classical.not_not.1 h1,Classical.not_not.1 h2,Classical.not_not.1 h3,Classical.not_not.1 h4,Classical.not_not.1 h5⟩
def zbR {α β:Type}{l:List α}{f:α->β}{i:Nat}{d:α}{e:β}(h:i<l.length):(l.map f).getD i e=f (l.getD i d):=by
 rw[List.getD_eq_getElem?_getD,List.getD_eq_getElem?_getD,List.getElem?_map,bt h];rfl
end Go.Stow
namespace Go.Proofs.YtdpapeledldifaaGreat
open Go Go.AM Go.TM Go.Stow
def y_ {f:Int}(h:i1 f):g_ f↔aO f 8:=by
 unfold i1 at h;unfold g_ aO;rw[Int.tmod_eq_emod_of_nonneg h.1,Int.tdiv_eq_ediv_of_nonneg (by omega)];omega
def K0 (m:Mth):(dH tS cI m).length=if cI m.1=ad then 5 else 11+m.2.2.2.2.2.1.length+((m.2.2.2.2.2.2.1.map (ia tS)).flatten).length+((m.2.2.2.2.2.2.2.map (ga tS)).flatten).length:=by
 unfold dH;split<;>simp only[aR,cf,cX,cW]<;>omega
def K1 (l:List Trp):((l.map (ia tS)).flatten).length=8*l.length:=by
 rw[DH]
 induction l with
 |nil=>rfl
 | cons x l ih=>
   simp only[bL,List.sum_cons,bD,ih]
   have:(ia tS x).length=8:=by unfold ia;simp only[aR,cX]
   omega
def zbS {p:List Cst}{m:Mth}(hf:jm m)(hb:eB p m) :
  jm (dI m)/\(∀f∈(dI m).2.2.2.2.2.2.2,DF f)/\(dH tS cI (dI m)).length<=(dH tS cI m).length:=by
 obtain⟨h1,h2,h3,h4,h5,h6,⟨h7,h8⟩,h9,h10⟩:=hf;obtain⟨hb2,k1,k2,k3,k4,k5,k6,k7⟩:=DA hb (by omega);have e0:(dI m).1=m.1:=rfl;have ec:∀f∈(dI m).2.2.2.2.2.2.2,∃f'∈m.2.2.2.2.2.2.2,f.2=f'.2/\0<=f.1/\f.1<=m.2.2.2.2.2.1.length:=k7;refine⟨⟨h1,h2,h3,h4,h5,by omega,⟨by omega,fun t ht=>?_⟩,by omega,fun f hf=>?_⟩,fun f hf=>?_,?_⟩
 ·obtain⟨t',ht',e,a1,a2,a3,a4,a5,a6⟩:=k6 t ht;refine⟨⟨a1,by omega⟩,⟨a3,by omega⟩,⟨a5,by omega⟩,?_⟩;rw[e];exact(h8 t' ht').2.2.2
 ·obtain⟨f',hf',e,a1,a2⟩:=k7 f hf;obtain⟨b1,b2,b3⟩:=h10 f' hf';refine⟨⟨a1,by omega⟩,?_,?_⟩
  ·rw[e];exact b2
  ·rw[e];exact b3
 ·have:=((yW.1 hb2.2.2.2.2.2).1 f hf).2;exact⟨fun k hk h3=>(this.2.2.1 k hk).2.2 h3,fun k hk h3=>(this.2.2.2 k hk).2.2 h3⟩
 ·rw[K0,K0,e0,K1,K1]
  have hs:(((dI m).2.2.2.2.2.2.2.map (ga tS)).flatten).length<=((m.2.2.2.2.2.2.2.map (ga tS)).flatten).length:=by
   rw[DH,DH];have e:(dI m).2.2.2.2.2.2.2=((m.2.2.2.2.2.2.2.map (iI (bx m.2.2.2.2.2.1).1)).foldl eD []):=rfl;rw[e];refine Nat.le_trans (KY _ _ _) ?_;simp only[List.map_nil,List.sum_nil,Nat.zero_add,List.map_map]
   have:((fun x=>(ga tS x).length)∘iI (bx m.2.2.2.2.2.1).1)=fun x=>(ga tS x).length:=by
    funext x;simp only[Function.comp,iI,ga,aR,cX]
   rw[this];exact bI _
  split
  ·exact bI _
  ·omega
def zbT {c:Cls}(h:put c≠[]):gd c/\(cH tI dN c).length<=900/\hZ (cH tI dN c)=U (c,[]):=by
 refine Classical.byContradiction fun hn=>h (kl hn)
def zbU {c0:List Cst}{c1 c2 c3:Int}{c4:List Int}{c5:List Fld}{ms:List Mth}(g:Mth->Mth)(h:∀ m∈ms,(dH tS cI (g m)).length<=(dH tS cI m).length) :
  (cH tS cI (c0,c1,c2,c3,c4,c5,ms.map g)).length<=(cH tS cI (c0,c1,c2,c3,c4,c5,ms)).length:=by
 have:=KZ (dH tS cI) g ms h;unfold cH;simp only[aR,cf,dG]
 omega
end Go.Proofs.YtdpapeledldifaaGreat
end
namespace Go.Proofs.YtdpapeledldifaaGreat
section
open Go Go.AM Go.TM Go.Stow
def K2 (n:Int):IntKind.wrap .u8 n=n % 256:=by
 simp[IntKind.wrap,IntKind.bits,IntKind.signed]
def K3 (n:Int):ef n=U (w1 n):=by
 have:=yz n;simp only[ef,this.1,this.2,ay,bp,aC];rfl
def zbV (n:Int):eR n=U (tI n):=by
 simp only[eR,K3,av,cf]
 rfl
def K4 {op:Int}(h0:0<=op)(h1:op<=255):w1 op=[UInt8.ofNat op.toNat]:=by
 unfold w1;rw[KV h0 h1]
def zbW {x:InsP}(h:jt x)(e:a_ x.2.1=1):iG x=w1 x.2.2:=by
 obtain⟨h0,h1⟩:=h.2.2.1 e;unfold iG;rw[if_pos e,K4 h0 h1]
def zbX {x:InsP}(h:jt x)(e:a_ x.2.1=2):iG x=tI x.2.2:=by
 have hr : -32768<=x.2.2/\x.2.2<=65535:=by
  by_cases h1:x.2.1=1
  ·have:=h.2.2.2.1 e h1;omega
  ·have:=h.2.2.2.2 e h1;omega
 unfold iG tI w1;rw[if_neg (by omega),if_pos e,K2,K2,Int.fdiv_eq_ediv_of_nonneg _ (by omega)];simp only[cD,dz,List.cons.injEq,and_true]
 constructor
 ·congr 1;omega
 ·congr 1;omega
def zbY {x:InsP}(h:jt x)(e1:a_ x.2.1≠1)(e2:a_ x.2.1≠2):iG x=[]:=by
 unfold iG;rw[if_neg e1,if_neg e2]
def zbZ (x:InsP):(iG x).length<=2:=by unfold iG;split<;>(try split)<;>simp
def qR {α β:Type}{f:α->List β}{k:Nat}:∀{l:List α},(∀x∈l,(f x).length<=k)->(l.flatMap f).length<=k*l.length
 |[],_=>by simp
 | x::l,h=>by
   have h1:=h x (by simp);have h2:=qR (l:=l) fun y hy=>h y (by simp[hy])
   rw[List.flatMap_cons,aR,bD,Nat.mul_succ];omega
def zb0 (l:List InsP):(enc l).length<=3*l.length:=by
 refine qR fun x _=>?_
 have:=zbZ x;simp only[Dl,bD];omega
def zb1 (a b:List InsP):enc (a++b)=enc a++enc b:=List.flatMap_append
def DI {α:Type}{l:List α}{i:Nat}(h:i<l.length):l.take (i+1)=l.take i++[l[i]]:=by
 rw[List.take_add_one,bt h];rfl
def zb2 {l:List InsP}{j:Nat}(h:j<l.length)(hg:jt l[j]):enc (l.take (j+1))=enc (l.take j)++(w1 l[j].2.1++iG l[j]):=by
 have:=(lI l[j].2.1).2 hg.1;rw[DI h,zb1,K4 this.1 (by omega)];show enc (l.take j)++(Dl l[j]++[])=_;rw[cN];rfl
def zb3 {l:List InsP}(hl:l.length<=1000)(j:Nat):(enc (l.take j)).length<=3000:=by
 have:=zb0 (l.take j);rw[cA]at this;omega
def zb4 (l:List InsP)(hl:l.length<=1048576):yw (l,l)=U ad:=by
 simp only[yw,ay,Bool.not_true,aQ]
 refine(pw (fun j=>(l,l,(l.length:Int),(j:Int))) () l.length rfl ?_ ?_).trans rfl
 ·simp only[px,bm,aQ]
 ·intro j hj;have j1:(j:Int)<l.length:=by omega
  simp only[j1,ay,aP,ko,aC,aY,bE hj,bp,Bool.not_true,aQ,wn (show j<=1048576 by omega)]
def zb5 (l:List InsP)(hg:∀ x∈l,jt x)(hl:l.length<=120)(he:(enc l).length<=120)(hp:fy 0 l)(hne:l≠[]):tV l=U (enc l):=by
 simp only[tV,show ¬(120:Int)<l.length by omega,bm,aQ]
 refine(pw (fun j=>(l,enc (l.take j),l,(l.length:Int),(j:Int))) (l,enc l) l.length rfl ?_ ?_).trans ?_
 ·simp only[px,bm,aQ,List.take_length]
 ·intro j hj;have j1:(j:Int)<l.length:=by omega
  have hx:=hg _ (List.getElem_mem hj);have hb:=zb3 (l:=l) (by omega) j;simp only[j1,ay,aP,ko,aC,aY,bE hj,wn (show j<=1048576 by omega)]
  rw[zb2 hj hx];generalize l[j]=x at hx;generalize enc (l.take j)=out at hb;have g1:out.length+1<=9223372036854775807:=by omega
  have g2:out.length+(1+1)<=9223372036854775807:=by omega
  have g3:out.length+(1+2)<=9223372036854775807:=by omega
  simp only[t9,K3,zbV,av,cf,cY,ay,aC,bQ,aF,aR,g1,g2,g3,show(1+1<=9223372036854775807)by omega,show(1+2<=9223372036854775807)by omega]
  have hr:=(lI x.2.1).1;by_cases e0:a_ x.2.1=0
  ·rw[if_pos e0,zbY hx (by omega) (by omega)];simp only[aJ,cN,wn (show j<=1048576 by omega)]
  ·by_cases e1:a_ x.2.1=1
   ·rw[if_neg e0,if_pos e1,zbW hx e1];simp only[aJ,wn (show j<=1048576 by omega)]
   ·have e2:a_ x.2.1=2:=by have:=hx.1;omega
    rw[if_neg e0,if_neg e1,if_pos e2,zbX hx e2];simp only[aJ,wn (show j<=1048576 by omega)]
 ·simp only
  rw[yR _ he,Dy hne hg hp];simp only[av,Bool.not_true,aQ,zb4 l (by omega)]
end
end Go.Proofs.YtdpapeledldifaaGreat
namespace Go.Stow
section
def dm (l:List InsP)(n:Nat):Nat->List Int×List InsP×Int
 |0=>(List.replicate n 0,[],0)
 |i+1=>((dm l n i).1.set (l.getD i (0,0,0)).1.toNat (dm l n i).2.2,
   if(l.getD i (0,0,0)).2.1=0/\i+1<l.length then(dm l n i).2.1 else(dm l n i).2.1++[((dm l n i).2.2,(l.getD i (0,0,0)).2.1,(l.getD i (0,0,0)).2.2)],
   if(l.getD i (0,0,0)).2.1=0/\i+1<l.length then(dm l n i).2.2 else(dm l n i).2.2+1+a_ (l.getD i (0,0,0)).2.1)
def zXY (a:Int)(x:InsP)(l:List InsP):cQ a (x::l)=if x.2.1=0/\l≠[]then cQ a l else(a,x.2.1,x.2.2)::cQ (a+1+a_ x.2.1) l:=rfl
def zXz (a:Int)(x:InsP)(l:List InsP):fA a (x::l)=fA (if x.2.1=0/\l≠[]then a else a+1+a_ x.2.1) l:=rfl
def zXO (a:Int)(x:InsP)(l:List InsP):dg a (x::l)=(x.1,a)::dg (if x.2.1=0/\l≠[]then a else a+1+a_ x.2.1) l:=rfl
def DJ:∀(a:Int) (l:List InsP),(dg a l).length=l.length
 |_,[]=>rfl
 |a,x::l=>by simp only[dg,bD,DJ]
def DK {l:List InsP}{n:Nat}(hg:∀ x∈l,0<=a_ x.2.1)(hp:fy 0 l)(hn:dy 0 l<n):∀i,i<=l.length ->
  (dm l n i).1.length=n/\(dm l n i).2.1++cQ (dm l n i).2.2 (l.drop i)=cQ 0 l/\fA (dm l n i).2.2 (l.drop i)=fA 0 l/\dg 0 l=(dg 0 l).take i++dg (dm l n i).2.2 (l.drop i) /\
  (∀q∈(dg 0 l).take i,(dm l n i).1[q.1.toNat]? = U q.2)/\(dm l n i).2.1.length<=i/\0<=(dm l n i).2.2/\(dm l n i).2.2<=3*i
 |0,_=>by simp[dm]
 | i+1,hi=>by
   obtain⟨h1,h2,h3,h4,h5,h6,h7,h8⟩:=DK hg hp hn i (by omega);have hil:i<l.length:=by omega
   have hd:l.drop i=l[i]::l.drop (i+1):=List.drop_eq_getElem_cons hil;have hx:l.getD i (0,0,0)=l[i]:=by rw[List.getD_eq_getElem?_getD,bt hil];rfl
   have hmem:=List.getElem_mem hil;have hxr:=(pt 0 l hg hp).2 _ hmem;have hxa:=hg _ hmem;have hx2:=(lI l[i].2.1).1
   have hne:l.drop (i+1)≠[]↔i+1<l.length:=by
    rw[ne_eq,List.drop_eq_nil_iff];omega
   simp only[dm,hx]
   rw[hd,zXY]at h2;rw[hd,zXz]at h3;rw[hd,zXO]at h4;simp only[hne]at h2 h3 h4;generalize (dm l n i).1=A at h1 h5 ⊢;generalize (dm l n i).2.1=O at h2 h6 ⊢;generalize (dm l n i).2.2=a at h2 h3 h4 h7 h8 ⊢;have hlen:=DJ 0 l
   have htk:(dg 0 l).take (i+1)=(dg 0 l).take i++[(l[i].1,a)]:=by
    have hl:(dg 0 l)[i]? = U (l[i].1,a):=by
     rw[h4,List.getElem?_append_right (by rw[cA];omega),cA,hlen,Nat.min_eq_left (by omega),Nat.sub_self];rfl
    rw[List.take_add_one,hl];rfl
   have h4':dg 0 l=(dg 0 l).take (i+1)++dg (if l[i].2.1=0/\i+1<l.length then a else a+1+a_ l[i].2.1) (l.drop (i+1)):=by
    rw[htk,b_];exact h4
   refine⟨by rw[List.length_set];exact h1,?_,?_,h4',?_,?_,?_,?_⟩
   ·split
    ·rename_i c;rw[if_pos c]at h2;exact h2
    ·rename_i c;rw[if_neg c]at h2;rw[b_];exact h2
   ·exact h3
   ·intro q hq;rw[htk]at hq;rcases List.mem_append.1 hq with hq|hq
    ·have hlt:q.1<l[i].1:=by
      have hpw:=(yT 0 0 l hg hp).2;rw[h4]at hpw;exact((List.pairwise_append.1 hpw).2.2 q hq (l[i].1,a) (by simp)).1
     have hq0:=((yT 0 0 l hg hp).1 q (List.mem_of_mem_take hq)).1;rw[List.getElem?_set_ne (by omega)];exact h5 q hq
    ·rw[List.mem_singleton.1 hq];simp only
     rw[List.getElem?_set_self (by omega)]
   ·split
    ·omega
    ·simp only[aR,bD,cW];omega
   ·split<;>omega
   ·split<;>omega
def K5 (A:List Int)(l:List InsP)(n:Int):Prop:=∀p,dP l p\/p=n->0<=p/\p<A.length/\A[p.toNat]? = U (cJ l p)
def zb6 {l:List InsP}{n:Nat}(hg:∀ x∈l,0<=a_ x.2.1)(hp:fy 0 l)(hn:dy 0 l=n):K5 ((dm l (n+1) l.length).1.set n (fA 0 l)) l n:=by
 obtain⟨h1,h2,h3,h4,h5,h6,h7,h8⟩:=DK (n:=n+1) hg hp (by omega) l.length (bI _);have hm:(dg 0 l).take l.length=dg 0 l:=by rw[<-DJ 0 l];exact List.take_length
 rw[hm]at h5;have hr:=(pt 0 l hg hp).2;intro p h;rw[List.length_set,h1];by_cases ho:dP l p
 ·obtain⟨q,hq,e1,e2⟩:=ud ho;obtain⟨x,hx,e3⟩:=ho;have:=hr x hx;refine⟨by omega,by omega,?_⟩;rw[List.getElem?_set_ne (by omega),e2,<-e1];exact h5 q hq
 ·have hpn:=h.resolve_left ho;refine⟨by omega,by omega,?_⟩;rw[yU ho,hpn,aY,List.getElem?_set_self (by omega)]
end
end Go.Stow
namespace Go.Proofs.YtdpapeledldifaaGreat
section
open Go Go.AM Go.TM Go.Stow
set_option maxRecDepth 10000
def K6 (op:Int):pc op=U (aa (14<=op/\op<=18)):=by
 simp only[pc,jr,av]
def zb7 {A:List Int}{l:List InsP}{n p:Int}{R:Type}{k:Int->Option R}(h:K5 A l n)(hp:dP l p\/p=n):(af (aa (0<=p)&&aa (p<(A.length:Int))) (aq A p.toNat k))=k (cJ l p):=by
 obtain⟨h1,h2,h3⟩:=h p hp;rw[decide_eq_true h1,decide_eq_true h2,bp,aC,pe h3]
def zWL {l:List InsP}{ts:List TrpP}{j:Nat}(h:j<ts.length):ff l (ts.take (j+1))=ff l (ts.take j)++if cJ l ts[j].1<cJ l ts[j].2.1 then [ju l ts[j]]else []:=by
 unfold ff;rw[DI h,List.map_append,List.filter_append];congr 1;show List.filter _ [ju l ts[j]]=_;have e:aa ((ju l ts[j]).1<(ju l ts[j]).2.1)=aa (cJ l ts[j].1<cJ l ts[j].2.1):=rfl;rw[List.filter_cons,e];by_cases c:cJ l ts[j].1<cJ l ts[j].2.1
 ·rw[if_pos c,if_pos (decide_eq_true c)];rfl
 ·rw[if_neg c,decide_eq_false c];rfl
def zb8 (l:List InsP)(ts:List TrpP)(j:Nat):(ff l (ts.take j)).length<=j:=by
 refine Nat.le_trans (List.length_filter_le _ _) ?_;rw[dG,cA];omega
def zb9 (out:List FrmP)(f:FrmP):(eD out f).length<=out.length+1:=by
 unfold eD;rw[aR];split
 ·rw[cA];simp only[bD,cW];omega
 ·simp
def K7:∀(rest out:List FrmP),(rest.foldl eD out).length<=out.length+rest.length
 |[],out=>by simp
 | f::rest,out=>by
   have h1:=zb9 out f;have h2:=K7 rest (eD out f);simp only[List.foldl_cons,bD];omega
def zWO {l:List InsP}{fs:List FrmP}{j:Nat}(h:j<fs.length):fg l (fs.take (j+1))=eD (fg l (fs.take j)) (iI l fs[j]):=by
 unfold fg;rw[DI h,List.map_append,List.foldl_append];rfl
def zca (l:List InsP)(fs:List FrmP)(j:Nat):(fg l (fs.take j)).length<=j:=by
 have:=K7 ((fs.take j).map (iI l)) [];simp only[cW,dG,cA]at this;unfold fg;omega
def zcb {p:List Cst}(m:Mth)(hb:eB p m)(h120:m.2.2.2.2.2.1.length<=120)(ht:m.2.2.2.2.2.2.1.length<=1000)(hf:m.2.2.2.2.2.2.2.length<=1000):tW m=U (dI m):=by
 obtain⟨m0,m1,m2,m3,m4,code,traps,frames⟩:=m;simp only at h120 ht hf;obtain⟨ho,-,-,hin,htr,hfr⟩:=hb;simp only at ho hin htr;have hfr:=yW.1 hfr;simp only at hfr;obtain⟨hne,hg,hp,hend⟩:=yV ho
 have hV:nL code=U ((bx code).1,ad):=by
  rw[yR code h120]
  conv=>rhs;rw[<-ho]
 have eT:dI (m0,m1,m2,m3,m4,code,traps,frames)=(m0,m1,m2,m3,m4,enc (cq (bx code).1),ff (bx code).1 traps,fg (bx code).1 frames):=rfl;rw[eT];have hlen:=pq code;generalize (bx code).1=l at *;have hg0:∀x∈l,0<=a_ x.2.1:=fun x hx=>(hg x hx).1
 have hto:=zb6 hg0 hp hend;have hr:=(pt 0 l hg0 hp).2;have hst:=fun i hi=>DK (n:=code.length+1) hg0 hp (by omega) i hi
 obtain⟨t1,t2,t3⟩:=Dt l;have tg:=Dw hg (by omega);have tne:cq l≠[]:=fun h=>Dp 0 l hne (List.map_eq_nil_iff.1 h)
 have tle:=Dm (cq l) 0 tg;have hK:=pv 0 0 l hg0;have w1':IntKind.wrap .i64 ((code.length:Int)+1)=((code.length+1:Nat):Int):=wn (by omega);have g8:(code.length+1)*8<=140737488355328:=by omega
 simp only[tW,hV,av,Bool.not_true,aQ,w1',ay,ko,bp,show((code.length+1:Nat):Int)<=9223372036854775807 by omega,show((code.length+1:Nat):Int)*8<=140737488355328 by omega,aC,aY]
 refine(pw (fun i=>((dm l (code.length+1) i).1,(dm l (code.length+1) i).2.1,(dm l (code.length+1) i).2.2,(l.length:Int),(i:Int),(m0,m1,m2,m3,m4,code,traps,frames),(0,0,0,0,0,[],[],[]),l))
  ((dm l (code.length+1) l.length).1,cQ 0 l,fA 0 l,(m0,m1,m2,m3,m4,code,traps,frames),(0,0,0,0,0,[],[],[])) l.length rfl ?_ ?_).trans ?_
 ·obtain⟨-,h2,h3,-⟩:=hst l.length (bI _);rw[List.drop_length]at h2 h3;simp only[cQ,cN]at h2;simp only[fA]at h3;simp only[px,bm,aQ,h2,h3]
 ·intro i hi;obtain⟨k1,-,-,-,-,k6,k7,k8⟩:=hst i (by omega);have j1:(i:Int)<l.length:=by omega
  have hxr:=hr _ (List.getElem_mem hi);have hxa:=(lI l[i].2.1).1;have hxg:=hg0 _ (List.getElem_mem hi);have hx:l.getD i (0,0,0)=l[i]:=by rw[List.getD_eq_getElem?_getD,bt hi];rfl
  have hcl:IntKind.wrap .i64 ((l.length:Int)-1)=(l.length:Int)-1:=wI (by omega) (by omega);simp only[dm,hx]
  generalize (dm l (code.length+1) i).1=A at k1;generalize (dm l (code.length+1) i).2.1=O at k6;generalize (dm l (code.length+1) i).2.2=a at k7 k8;simp only[j1,ay,aP,ko,bp,aC,aY,bE hi,hcl]
  generalize l[i]=x at hxr hxa hxg;have hA:x.1.toNat<A.length:=by omega
  simp only[hxr.1,show x.1<(A.length:Int)by omega,ay,bp,aC,bE hA,aF]
  have g1:O.length+1<=9223372036854775807:=by omega
  have g2:(O.length+1)*24<=140737488355328:=by omega
  have wa:IntKind.wrap .i64 (a+IntKind.wrap .i64 (1+a_ x.2.1))=a+1+a_ x.2.1:=by rw[wI (x:=1+a_ x.2.1) (by omega) (by omega),wI (by omega) (by omega)];omega
  by_cases c1:x.2.1=0
  ·by_cases c2:(i:Int)<(l.length:Int)-1
   ·rw[if_pos c1,if_pos c2,if_pos ⟨c1,by omega⟩,if_pos ⟨c1,by omega⟩];simp only[aJ,aT,wn (show i<=1048576 by omega)]
   ·rw[if_pos c1,if_neg c2,if_neg (fun h=>c2 (by omega)),if_neg (fun h=>c2 (by omega))];simp only[aJ,g1,g2,ay,bp,aC,t9,av,wa,wn (show i<=1048576 by omega)]
  ·rw[if_neg c1,if_neg (fun h=>c1 h.1),if_neg (fun h=>c1 h.1)];simp only[aJ,g1,g2,ay,bp,aC,t9,av,wa,wn (show i<=1048576 by omega)]
 obtain⟨kA,-⟩:=hst l.length (bI _)
 have hkl:(cQ 0 l).length<=120:=by
  obtain⟨-,h2,-,-,-,h6,-,-⟩:=hst l.length (bI _);rw[List.drop_length]at h2;simp only[cQ,cN]at h2;rw[<-h2];omega
 generalize (dm l (code.length+1) l.length).1=A0 at kA hto;have hcA:code.length<A0.length:=by omega
 simp only[show(code.length:Int)<(A0.length:Int)by omega,ko,ay,bp,aC,aY,bE hcA]
 generalize A0.set code.length (fA 0 l)=A at hto
 refine(KL (fun j a=>(A,((cQ 0 l).length:Int),(j:Int),(m0,m1,m2,m3,m4,code,traps,frames),(0,0,0,0,0,[],[],[]),a))
  (fun a=>(A,a,(m0,m1,m2,m3,m4,code,traps,frames),(0,0,0,0,0,[],[],[]))) (Stow.ren l) (cQ 0 l) rfl (by omega) ?_ ?_).trans ?_
 ·intro a ha;simp only[ha,bG,bm,aQ]
 ·intro a x b hx hab;have j1:(a.length:Int)<((cQ 0 l).length:Int):=by omega
  have j2:(a.length:Int)<((a++x::b).length:Int):=by simp only[aR,bD];omega
  obtain⟨z,hz,ez⟩:=uc 0 l x hx;simp only[j1,j2,ay,aP,ko,bp,aC,aY,KJ,K6,av,aF,KK]
  by_cases c:14<=x.2.1/\x.2.1<=18
  ·have hat:dP l x.2.2:=by
    have:=(iH l z.2.2).1 ((hin z hz).2.1 (by rw[<-ez];exact c));rw[ez];exact this
   rw[if_pos c,zb7 hto (.inl hat)];simp only[aJ,wn (show a.length<=1048576 by omega),Stow.ren,if_pos c]
  ·rw[if_neg c];simp only[aJ,wn (show a.length<=1048576 by omega),Stow.ren,if_neg c]
 have eL:(cQ 0 l).map (Stow.ren l)=cq l:=rfl;rw[eL];have hL:(cq l).length<=120:=by rw[<-eL,dG];exact hkl
 have q5:=zb5 (cq l) tg hL (by omega) t1 tne;simp only[q5,av,ay,bp,ck,aC,bQ,mA]
 refine(pw (fun j=>(A,traps,(traps.length:Int),(j:Int),(m0,m1,m2,m3,m4,code,traps,frames),(0,0,0,0,0,[],[],[]),m0,m1,m2,m3,m4,enc (cq l),ff l (traps.take j),[]))
  (A,(m0,m1,m2,m3,m4,code,traps,frames),(0,0,0,0,0,[],[],[]),m0,m1,m2,m3,m4,enc (cq l),ff l traps,[]) traps.length rfl ?_ ?_).trans ?_
 ·simp only[px,bm,aQ,List.take_length]
 ·intro j hj;have j1:(j:Int)<traps.length:=by omega
  obtain⟨b1,b2,b3,b4,-⟩:=htr _ (List.getElem_mem hj);have hle:=zb8 l traps j;obtain⟨a1,a2,a3⟩:=hto traps[j].1 (.inl ((iH _ _).1 b2));obtain⟨c1,c2,c3⟩:=hto traps[j].2.1 (b3.elim .inr fun h=>.inl ((iH _ _).1 h));obtain⟨d1,d2,d3⟩:=hto traps[j].2.2.1 (.inl ((iH _ _).1 b4));rw[zWL hj];simp only[j1,ay,aP,ko,aC,aY,bE hj]
  have em:ju l traps[j]=(cJ l traps[j].1,cJ l traps[j].2.1,cJ l traps[j].2.2.1,traps[j].2.2.2):=rfl;rw[em];generalize traps[j]=t at a1 a2 a3 c1 c2 c3 d1 d2 d3;generalize ff l (traps.take j)=out at hle;have g1:out.length+1<=9223372036854775807:=by omega
  have g2:(out.length+1)*32<=140737488355328:=by omega
  simp only[a1,a2,c1,c2,d1,d2,ay,bp,aC,pe a3,pe c3,pe d3,beq_self_eq_true,ck,bQ,aF]
  by_cases e:cJ l t.1<cJ l t.2.1
  ·rw[if_pos e,if_pos e];simp only[g1,g2,ay,bp,aC,aJ,wn (show j<=1048576 by omega)]
  ·rw[if_neg e,if_neg e];simp only[aJ,wn (show j<=1048576 by omega),cN]
 refine(pw (fun j=>(A,frames,(frames.length:Int),(j:Int),(0,0,0,0,0,[],[],[]),m0,m1,m2,m3,m4,enc (cq l),ff l traps,fg l (frames.take j)))
  ((0,0,0,0,0,[],[],[]),m0,m1,m2,m3,m4,enc (cq l),ff l traps,fg l frames) frames.length rfl ?_ ?_).trans ?_
 ·simp only[px,bm,aQ,List.take_length]
 ·intro j hj;have j1:(j:Int)<frames.length:=by omega
  have hle:=zca l frames j;obtain⟨a1,a2,a3⟩:=hto frames[j].1 (.inl (hfr.1 _ (List.getElem_mem hj)).1);rw[zWO hj];simp only[j1,ay,aP,ko,aC,aY,bE hj]
  have em:iI l frames[j]=(cJ l frames[j].1,frames[j].2.1,frames[j].2.2):=rfl;rw[em];generalize frames[j]=f at a1 a2 a3;generalize fg l (frames.take j)=out at hle;generalize cJ l f.1=q at a3;simp only[a1,a2,ay,bp,aC,pe a3]
  unfold eD;by_cases h0:(0:Int)<out.length
  ·have hw:IntKind.wrap .i64 ((out.length:Int)-1)=(out.length:Int)-1:=wI (by omega) (by omega);have hi:((out.length:Int)-1).toNat=out.length-1:=by omega
   have hlt:out.length-1<out.length:=by omega
   have hgd:out.getD (out.length-1) (0,[],[])=out[out.length-1]:=rf hlt;simp only[h0,ay,aP,hw,show(0:Int)<=(out.length:Int)-1 by omega,show(out.length:Int)-1<out.length by omega,show(out.length:Int)-1<=out.length by omega,bp,aC,hi,bE hlt,aJ,aF,hgd]
   by_cases e:out[out.length-1].1=q
   ·have g1:(out.take (out.length-1)).length+1<=9223372036854775807:=by rw[cA];omega
    have g2:((out.take (out.length-1)).length+1)*56<=140737488355328:=by rw[cA];omega
    rw[if_pos e,if_pos ⟨by omega,e⟩];simp only[aJ,List.drop_zero,g1,g2,ay,bp,aC,wn (show j<=1048576 by omega)]
   ·have g1:out.length+1<=9223372036854775807:=by omega
    have g2:(out.length+1)*56<=140737488355328:=by omega
    rw[if_neg e,if_neg (fun h=>e h.2)];simp only[aJ,g1,g2,ay,bp,aC,wn (show j<=1048576 by omega)]
  ·have g1:out.length+1<=9223372036854775807:=by omega
   have g2:(out.length+1)*56<=140737488355328:=by omega
   rw[if_neg (fun h=>h0 (by omega))];simp only[h0,bm,aQ,aJ,g1,g2,ay,bp,aC,wn (show j<=1048576 by omega)]
 ·rfl
end
end Go.Proofs.YtdpapeledldifaaGreat
section
namespace Go.Proofs.YtdpapeledldifaaGreat
open Go Go.AM Go.TM Go.Stow
set_option maxRecDepth 10000
def zcc (op:Int):yl op=U (aa (gA op)):=by
 simp only[yl,jr,av,aF]
 unfold gA;split
 ·rename_i h;simp[h]
 ·rename_i h;simp[h]
def zcd (t:Trp)(a:Int):yk (t,a)=U (aa (t.1<=a/\a<t.2.1)):=by
 obtain⟨t0,t1,t2,t3⟩:=t;simp only[yk,aF]
 split
 ·rename_i h;simp[h]
 ·rename_i h;simp[h]
section
variable {c0:List Cst}{c1 c2 c3:Int}{c4:List Int}{c5:List Fld}{c6:List Mth}{m0 m1 m2 m3 m4:Int}{m5:List UInt8}{m6:List Trp}{m7:List Frm}{L:List InsP}
def DL (p:List Stow.Ent)(L:List InsP)(tr:List TrpP)(D:Int)(a n:Int)(out out':List Int)(bad:Bool):Prop :=
 (bad=ad->Bd (dS p L tr D) (dX p L tr))/\(bad=ag->Up out out'/\Js (dS p L tr D) (dX p L tr) out'/\(∃k:Nat,(k:Int)=bf L a/\out'.getD k (-1)=n)/\n<=D/\∀q,out.getD q (-1)<0->0<=out'.getD q (-1)->Cl (dS p L tr D) (dX p L tr) out' q)
def zce (f:Nat)(a n:Int)(out:List Int)(hL:L.length<=1048576) :
  lE (f+1) (a,n,c0,c1,c2,c3,c4,c5,c6,m0,m1,m2,m3,m4,m5,m6,m7,L,out,ad)=U (c0,c1,c2,c3,c4,c5,c6,m0,m1,m2,m3,m4,m5,m6,m7,L,out,ad):=by
 show qN (lE f) _=_;simp only[qN,ub _ _ hL,av,aF,eg,aJ,aP,ite_self]
def Nt (L:List InsP)(a n:Int)(A:List Int):Prop:=∃k:Nat,(k:Int)=bf L a/\A.getD k (-1)=n
def Nt.up {a n:Int}{A B:List Int}(h:Nt L a n A)(h0:0<=n)(u:Up A B):Nt L a n B:=by
 obtain⟨k,e,hk⟩:=h;exact⟨k,e,by rw[u.2.2 k (by rw[hk];exact h0),hk]⟩
def jR (p:List Stow.Ent)(L:List InsP)(tr:List TrpP)(D:Int)(A:List Int)(N:List Int->Prop)(B:List Int)(bad:Bool):Prop :=
 (bad=ad->Bd (dS p L tr D) (dX p L tr))/\(bad=ag->Up A B/\Js (dS p L tr D) (dX p L tr) B/\N B/\∀q,A.getD q (-1)<0->0<=B.getD q (-1)->Cl (dS p L tr D) (dX p L tr) B q)
def jR.mono {p:List Stow.Ent}{tr:List TrpP}{D:Int}{A B:List Int}{N N':List Int->Prop}{bad:Bool}(h:jR p L tr D A N B bad)(g:N B->N' B):jR p L tr D A N' B bad :=
 ⟨h.1,fun e=>by obtain⟨h1,h2,h3,h4⟩:=h.2 e;exact⟨h1,h2,g h3,h4⟩⟩
def jR.call {p:List Stow.Ent}{tr:List TrpP}{D a n:Int}{A B B':List Int}{N:List Int->Prop}{b:Bool}(h:jR p L tr D A N B ag)(hN:∀ A B,Up A B->N A->N B)(g:DL p L tr D a n B B' b):jR p L tr D A (fun X=>N X/\Nt L a n X/\n<=D) B' b:=by
 obtain⟨h1,h2,h3,h4⟩:=h.2 rfl;refine⟨g.1,fun e=>?_⟩;obtain⟨g1,g2,g3,g4,g5⟩:=g.2 e;refine⟨h1.trans g1,g2,⟨hN _ _ g1 h3,g3,g4⟩,fun q hq hq'=>?_⟩;by_cases hb:0<=B.getD q (-1)
 ·exact(h4 q hq hb).up rj hb g1
 ·exact g5 q (by omega) hq'
def zcf (hp:cj c0)(hok:kV c0)(hd:nU c0 L m6 m3 m5.length):∀(f:Nat) (a n:Int) (out:List Int),out.length=L.length->Js (dS c0 L m6 m3) (dX c0 L m6) out->mK out<f->0<=n->n<=1000 ->
  (¬Bd (dS c0 L m6 m3) (dX c0 L m6)->∃k:Nat,(k:Int)=bf L a/\fN (dS c0 L m6 m3) (dX c0 L m6) k n/\n<=m3) ->
  ae (lE f (a,n,c0,c1,c2,c3,c4,c5,c6,m0,m1,m2,m3,m4,m5,m6,m7,L,out,ag)) fun y=>∃out' bad,y=(c0,c1,c2,c3,c4,c5,c6,m0,m1,m2,m3,m4,m5,m6,m7,L,out',bad)/\DL c0 L m6 m3 a n out out' bad:=by
 have hLl:=hd.2.2.2.2.2.2.2.2.2.1;have htl:=hd.2.2.2.2.2.2.2.2.2.2;have hD1:=hd.2.2.2.2.2.2.2.1;have hD2:=hd.2.2.2.2.2.2.2.2.1;have hRS:¬Bd (dS c0 L m6 m3) (dX c0 L m6)->∀k n,fN (dS c0 L m6 m3) (dX c0 L m6) k n->dS c0 L m6 m3 k n:=fun hB k n hr=>Classical.byContradiction fun hs=>hB (.inl ⟨k,n,hr,hs⟩)
 intro f
 induction f with
 |zero=>intro a n out _ _ h;exact absurd h (Nat.not_lt_zero _)
 | succ f ih=>
   intro a n out hl hj hu h0 h1 hA;show ae (qN (lE f) _) _;unfold qN;refine ae.bind (P:=fun y=>y=bf L a) ⟨_,ub L a (by omega),rfl⟩ ?_;rintro _ rfl;refine ae.bindE (fun z=>z=(n,bf L a,c0,c1,c2,c3,c4,c5,c6,m0,m1,m2,m3,m4,m5,m6,m7,L,out,aa (bf L a<0\/m3<n))) ?_ ?_
   ·refine aw (fun h=>?_) fun h=>aw (fun h'=>?_) fun h'=>?_
    ·simp only[aI]at h;exact ae.ret (by simp[h])
    ·simp only[aI]at h';exact ae.ret (by simp[h'])
    ·simp only[bN]at h h';exact ae.ret (by simp[h,h'])
   rintro _ rfl;by_cases hb:bf L a<0\/m3<n
   ·have hBd:Bd (dS c0 L m6 m3) (dX c0 L m6):=Classical.byContradiction fun hn=>by
     obtain⟨k,hk,_,hD⟩:=hA hn;omega
    rw[decide_eq_true hb];exact ae.ret ⟨_,_,rfl,fun _=>hBd,fun h=>by cases h⟩
   rw[decide_eq_false hb];obtain⟨k,hk⟩:∃k:Nat,bf L a=k:=⟨(bf L a).toNat,by omega⟩
   have hkl:k<L.length:=by have:=DC L a;omega
   have hko:k<out.length:=by omega
   have hrk:¬Bd (dS c0 L m6 m3) (dX c0 L m6)->fN (dS c0 L m6 m3) (dX c0 L m6) k n:=fun hB=>by
    obtain⟨k',e,hr,_⟩:=hA hB;obtain rfl:k'=k:=by omega
    exact hr
   have hnD:n<=m3:=by omega
   have g0:(aa ((0:Int)<=k)&&aa ((k:Int)<(out.length:Int)))=ad:=by simp;omega
   have g1:(aa ((0:Int)<=k)&&aa ((k:Int)<(L.length:Int)))=ad:=by simp;omega
   have eo:out[((k:Int)).toNat]? = U (out.getD k (-1)):=by
    rw[aY,bt hko,List.getD_eq_getElem?_getD,bt hko];rfl
   rw[hk];refine ae.bindE (fun z=>z=(n,(k:Int),aa (0<=out.getD k (-1)),c0,c1,c2,c3,c4,c5,c6,m0,m1,m2,m3,m4,m5,m6,m7,L,out,ag)) (aA g0 (cr eo (ae.ret rfl))) ?_;rintro _ rfl;refine aw (fun hv=>?_) fun hv=>?_
   ·simp only[aI]at hv;refine aA g0 (cr eo (ae.ret ⟨out,_,rfl,fun h=>?_,fun h=>?_⟩))
    ·have h:¬out.getD k (-1)=n:=by simpa using h
     refine Classical.byContradiction fun hB=>hB (.inr ⟨k,_,_,(hj k).2 hv hB,hrk hB,h⟩)
    ·have h:out.getD k (-1)=n:=by simpa using h
     exact⟨D1 _,hj,⟨k,hk.symm,h⟩,hnD,fun q h1 h2=>by omega⟩
   simp only[bN]at hv;obtain⟨⟨x0,x1,x2⟩,ex⟩:∃x,L[k]? = U x:=⟨_,bt hkl⟩
   have hxm:=cK ex;have q:=zbA (c0,c1,c2,c3,c4,c5,c6) (x0,x1,x2) [] hp hok (hd.2.1 _ hxm) (hd.2.2.2.2.1 _ hxm);refine aA g0 (cr eo (aA g1 (cr (show L[((k:Int)).toNat]? = U (x0,x1,x2)from ex) (ae.bind (P:=fun y=>y=ei c0 (x0,x1,x2)) ⟨_,q,rfl⟩ ?_))));rintro _ rfl;obtain⟨⟨hm1,hm2⟩,hm3,hm4⟩:=DB c0 (x0,x1,x2);obtain⟨t,ht⟩:∃t,(ei c0 (x0,x1,x2)).1=t:=⟨_,rfl⟩
   obtain⟨u,hu'⟩:∃u,(ei c0 (x0,x1,x2)).2=u:=⟨_,rfl⟩
   rw[show ei c0 (x0,x1,x2)=(t,u)by rw[<-ht,<-hu']];rw[ht]at hm1 hm2;rw[hu']at hm3 hm4;have hw:IntKind.wrap .i64 (IntKind.wrap .i64 (n-t)+u)=n-t+u:=by rw[wI (x:=n-t) (by omega) (by omega),wI (by omega) (by omega)]
   refine ae.seq (ae.seq (aA (by simp) (ae.ret trivial)) (ae.ret trivial)) ?_
   have hsS:¬Bd (dS c0 L m6 m3) (dX c0 L m6)->t<=n/\n-t+u<=m3/\(¬gA x1->k+1<L.length)/\∀tp∈m6,tp.1<=x0->x0<tp.2.1->1<=m3:=fun hB=>by
    obtain⟨y,ey,s1,s2,s3,s4⟩:=hRS hB k n (hrk hB);obtain rfl:=Option.some.inj (ex.symm.trans ey);rw[ht]at s1 s2;rw[hu']at s2;exact⟨s1,s2,s3,s4⟩
   have hun:=KE out k n hko (by omega) h0;have hup:Up out (out.set k n):=Up.set hko (by omega) h0;have hjs:Js (dS c0 L m6 m3) (dX c0 L m6) (out.set k n):=hj.set hko h0 hrk;have hlen:(out.set k n).length=L.length:=by simp[hl]
   have hgk:(out.set k n).getD k (-1)=n:=by rw[nT _ _ _ _ hko,if_pos rfl]
   obtain⟨out1,hout⟩:∃o,out.set k n=o:=⟨_,rfl⟩
   rw[hout]at hun hup hjs hlen hgk;have hset:List.set out ((k:Int)).toNat n=out1:=by rw[<-hout];rfl
   refine ae.bindE (fun z=>z=(n,(k:Int),t,u,(x0,x1,x2),c0,c1,c2,c3,c4,c5,c6,m0,m1,m2,m3,m4,m5,m6,m7,L,out1,ag)/\t<=n/\n-t+u<=m3) ?_ ?_
   ·refine aw (fun h=>?_) fun h=>aw (fun h'=>?_) fun h'=>?_
    ·simp only[aI]at h;exact ae.ret ⟨_,_,rfl,fun _=>Classical.byContradiction fun hB=>by have:=(hsS hB).1;omega,fun h=>by cases h⟩
    ·simp only[aI]at h';rw[hw]at h';exact ae.ret ⟨_,_,rfl,fun _=>Classical.byContradiction fun hB=>by have:=(hsS hB).2.1;omega,fun h=>by cases h⟩
    ·simp only[bN]at h h';rw[hw]at h';exact ae.ret ⟨by rw[hset],by omega,by omega⟩
   rintro _ ⟨rfl,htn,hnu⟩;have hf:1<=f:=by omega
   have hstep:¬Bd (dS c0 L m6 m3) (dX c0 L m6)->∀k' n',dX c0 L m6 k n k' n'->fN (dS c0 L m6 m3) (dX c0 L m6) k' n':=fun hB k' n' hx=>(hrk hB).step (hRS hB k n (hrk hB)) hx
   have call:∀(a' n':Int) (N:List Int->Prop) (oi:List Int) (bi:Bool),jR c0 L m6 m3 out1 N oi bi->(∀A B,Up A B->N A->N B)->0<=n'->n'<=1000->(¬Bd (dS c0 L m6 m3) (dX c0 L m6)->∃k':Nat,(k':Int)=bf L a'/\fN (dS c0 L m6 m3) (dX c0 L m6) k' n'/\n'<=m3) ->
     ae (lE f (a',n',c0,c1,c2,c3,c4,c5,c6,m0,m1,m2,m3,m4,m5,m6,m7,L,oi,bi)) fun y=>∃out' bad,y=(c0,c1,c2,c3,c4,c5,c6,m0,m1,m2,m3,m4,m5,m6,m7,L,out',bad)/\jR c0 L m6 m3 out1 (fun X=>N X/\Nt L a' n' X/\n'<=m3) out' bad:=by
    intro a' n' N oi bi hm hN h0' h1' hA';cases bi with
    | true=>
      obtain⟨f',rfl⟩:∃f',f=f'+1:=⟨f-1,by omega⟩
      exact⟨_,zce f' a' n' oi (by omega),oi,ad,rfl,hm.1,fun h=>by cases h⟩
    | false=>
      obtain⟨u1,j1,n1,q1⟩:=hm.2 rfl;refine(ih a' n' oi (by rw[u1.1,hlen]) j1 (by have:=u1.2.1;omega) h0' h1' hA').mono ?_;rintro _ ⟨o',b',rfl,hP⟩;exact⟨o',b',rfl,hm.call hN hP⟩
   have hup1:∀(i:Nat) (A B:List Int),Up A B->(∀j,j<i->∀tp,m6[j]? = U tp->tp.1<=x0/\x0<tp.2.1->Nt L tp.2.2.1 1 A/\1<=m3)->∀j,j<i->∀tp,m6[j]? = U tp->tp.1<=x0/\x0<tp.2.1->Nt L tp.2.2.1 1 B/\1<=m3 :=
    fun i A B hu h j hj tp e hc=>⟨(h j hj tp e hc).1.up (by omega) hu,(h j hj tp e hc).2⟩
   refine ae.bindE (fun z=>∃oi bi,z=(n,(k:Int),t,u,(x0,x1,x2),c0,c1,c2,c3,c4,c5,c6,m0,m1,m2,m3,m4,m5,m6,m7,L,oi,bi)/\jR c0 L m6 m3 out1 (fun A=>∀j,j<m6.length->∀tp,m6[j]? = U tp->tp.1<=x0/\x0<tp.2.1->Nt L tp.2.2.1 1 A/\1<=m3) oi bi)
    (ae.loop (fun z=>∃(i:Nat) (oi:List Int) (bi:Bool),z=(n,(k:Int),t,u,m6,(m6.length:Int),(i:Int),(x0,x1,x2),c0,c1,c2,c3,c4,c5,c6,m0,m1,m2,m3,m4,m5,m6,m7,L,oi,bi)/\i<=m6.length/\jR c0 L m6 m3 out1 (fun A=>∀j,j<i->∀tp,m6[j]? = U tp->tp.1<=x0/\x0<tp.2.1->Nt L tp.2.2.1 1 A/\1<=m3) oi bi)
     (fun z=>m6.length-z.2.2.2.2.2.2.1.toNat) ?_ ⟨0,out1,ag,rfl,Nat.zero_le _,⟨fun h=>(by cases h),fun _=>⟨D1 _,hjs,fun j hj=>absurd hj (Nat.not_lt_zero _),fun q h1 h2=>by omega⟩⟩⟩) ?_
   ·rintro _ ⟨i,oi,bi,rfl,hi,hM⟩;refine aw (fun h=>?_) fun h=>?_
    ·simp only[aI]at h;have hil:i<m6.length:=by omega
     obtain⟨⟨t0,t1,t2,t3⟩,et⟩:∃tp,m6[i]? = U tp:=⟨_,bt hil⟩
     have hw1:IntKind.wrap .i64 ((i:Int)+1)=((i+1:Nat):Int):=by rw[wI (by omega) (by omega)];rfl
     refine ae.bindE (fun z=>∃oj bj,z=(n,(k:Int),t,u,m6,(m6.length:Int),(i:Int),(x0,x1,x2),c0,c1,c2,c3,c4,c5,c6,m0,m1,m2,m3,m4,m5,m6,m7,L,oj,bj)/\jR c0 L m6 m3 out1 (fun A=>∀j,j<i+1->∀tp,m6[j]? = U tp->tp.1<=x0/\x0<tp.2.1->Nt L tp.2.2.1 1 A/\1<=m3) oj bj)
      (aA (by simp) (cr (show m6[((i:Int)).toNat]? = U (t0,t1,t2,t3)from et) (ae.bind (P:=fun y=>y=aa (t0<=x0/\x0<t1)) ⟨_,zcd _ _,rfl⟩ ?_))) ?_
     ·rintro _ rfl;refine aw (fun hc=>?_) fun hc=>?_
      ·simp only[aI]at hc;refine ae.bind (call t2 1 _ oi bi hM (hup1 i) (by omega) (by omega) fun hB=>?_) ?_
       ·have h1D:=(hsS hB).2.2.2 (t0,t1,t2,t3) (cK et) hc.1 hc.2;have ho:0<=bf L t2:=hd.2.2.2.2.2.2.1 _ (cK et);exact⟨(bf L t2).toNat,by omega,hstep hB _ _ ⟨_,ex,.inr (.inr ⟨_,cK et,hc.1,hc.2,by show(((bf L t2).toNat:Nat):Int)=bf L t2;omega,rfl⟩)⟩,h1D⟩
       ·rintro _ ⟨oj,bj,rfl,hM'⟩;refine ae.ret ⟨_,_,rfl,hM'.mono fun⟨g1,g2,g3⟩ j hj tp e hcv=>?_⟩;by_cases hji:j<i
        ·exact g1 j hji tp e hcv
        ·obtain rfl:j=i:=by omega
         obtain rfl:=Option.some.inj (et.symm.trans e);exact⟨g2,g3⟩
      ·simp only[bN]at hc;refine ae.ret ⟨_,_,rfl,hM.mono fun g1 j hj tp e hcv=>?_⟩;by_cases hji:j<i
       ·exact g1 j hji tp e hcv
       ·obtain rfl:j=i:=by omega
        obtain rfl:=Option.some.inj (et.symm.trans e);exact absurd hcv hc
     ·rintro _ ⟨oj,bj,rfl,hM'⟩;refine ae.ret ⟨⟨i+1,oj,bj,by rw[hw1],by omega,hM'⟩,?_⟩;show m6.length-(IntKind.wrap .i64 ((i:Int)+1)).toNat<m6.length-((i:Int)).toNat;rw[hw1];omega
    ·simp only[bN]at h;obtain rfl:i=m6.length:=by omega
     exact ae.ret ⟨oi,bi,rfl,hM⟩
   rintro _ ⟨oi,bi,rfl,hM⟩;have hw2:IntKind.wrap .i64 (n+IntKind.wrap .i64 (u-t))=n-t+u:=by rw[wI (x:=u-t) (by omega) (by omega),wI (by omega) (by omega)];omega
   have hnn:0<=n-t+u:=by omega
   refine ae.bindE (fun z=>∃oj bj,z=(n-t+u,(k:Int),(x0,x1,x2),c0,c1,c2,c3,c4,c5,c6,m0,m1,m2,m3,m4,m5,m6,m7,L,oj,bj)/\jR c0 L m6 m3 out1 (fun A=>(∀j,j<m6.length->∀tp,m6[j]? = U tp->tp.1<=x0/\x0<tp.2.1->Nt L tp.2.2.1 1 A/\1<=m3)/\(14<=x1/\x1<=18->Nt L x2 (n-t+u) A)) oj bj)
    (ae.bind (P:=fun y=>y=aa (14<=x1/\x1<=18)) ⟨_,K6 x1,rfl⟩ ?_) ?_
   ·rintro _ rfl;rw[hw2];refine aw (fun hc=>?_) fun hc=>?_
    ·simp only[aI]at hc;refine ae.bind (call x2 (n-t+u) _ oi bi hM (hup1 m6.length) hnn (by omega) fun hB=>?_) ?_
     ·have ho:0<=bf L x2:=hd.2.2.2.2.2.1 _ hxm hc;exact⟨(bf L x2).toNat,by omega,hstep hB _ _ ⟨_,ex,.inr (.inl ⟨hc,by show(((bf L x2).toNat:Nat):Int)=bf L x2;omega,by rw[ht,hu']⟩)⟩,hnu⟩
     ·rintro _ ⟨oj,bj,rfl,hM'⟩;exact ae.ret ⟨_,_,rfl,hM'.mono fun⟨g1,g2,g3⟩=>⟨g1,fun _=>g2⟩⟩
    ·simp only[bN]at hc;exact ae.ret ⟨_,_,rfl,hM.mono fun g1=>⟨g1,fun h=>absurd h hc⟩⟩
   rintro _ ⟨oj,bj,rfl,hM2⟩;refine ae.bindE (fun z=>z=(n-t+u,(k:Int),(!aa (gA x1))&&!bj,c0,c1,c2,c3,c4,c5,c6,m0,m1,m2,m3,m4,m5,m6,m7,L,oj,bj)) (ae.bind (P:=fun y=>y=aa (gA x1)) ⟨_,zcc x1,rfl⟩ ?_) ?_
   ·rintro _ rfl;refine aw (fun h=>ae.ret ?_) fun h=>ae.ret ?_
    ·show _=_;rw[h];rfl
    ·show _=_;rw[h];rfl
   rintro _ rfl
   have fin:∀(o':List Int) (b':Bool),jR c0 L m6 m3 out1 (fun A=>((∀j,j<m6.length->∀tp,m6[j]? = U tp->tp.1<=x0/\x0<tp.2.1->Nt L tp.2.2.1 1 A/\1<=m3)/\(14<=x1/\x1<=18->Nt L x2 (n-t+u) A))/\(¬gA x1->k+1<L.length/\A.getD (k+1) (-1)=n-t+u)) o' b'->DL c0 L m6 m3 a n out o' b':=by
    intro o' b' hM3;refine⟨hM3.1,fun e=>?_⟩;obtain⟨u3,j3,⟨⟨n1,n2⟩,n3⟩,q3⟩:=hM3.2 e;have ek:o'.getD k (-1)=n:=by rw[u3.2.2 k (by rw[hgk];exact h0),hgk]
    refine⟨hup.trans u3,j3,⟨k,hk.symm,ek⟩,hnD,fun q hq hq'=>?_⟩;by_cases hqk:q=k
    ·subst hqk;refine⟨⟨_,ex,?_,?_,fun hne=>(n3 hne).1,fun tp htp h1 h2=>?_⟩,?_⟩
     ·rw[ek,ht];exact htn
     ·rw[ek,ht,hu'];exact hnu
     ·obtain⟨j,hj,e⟩:=List.getElem_of_mem htp;exact(n1 j hj tp (by rw[bt hj,e]) ⟨h1,h2⟩).2
     ·rw[ek];rintro k' n' ⟨y,ey,hy⟩;obtain rfl:=Option.some.inj (ex.symm.trans ey);rw[ht,hu']at hy;rcases hy with⟨hne,rfl,rfl⟩|⟨hc,he,rfl⟩|⟨tp,htp,h1,h2,he,rfl⟩
      ·exact(n3 hne).2
      ·obtain⟨k2,e2,h2⟩:=n2 hc;obtain rfl:k'=k2:=by have:=e2.trans he.symm;omega
       exact h2
      ·obtain⟨j,hj,e⟩:=List.getElem_of_mem htp;obtain⟨k2,e2,h2⟩:=(n1 j hj tp (by rw[bt hj,e]) ⟨h1,h2⟩).1;obtain rfl:k'=k2:=by have:=e2.trans he.symm;omega
       exact h2
    ·refine q3 q ?_ hq';rw[<-hout,nT _ _ _ _ hko,if_neg hqk];exact hq
   refine aw (fun h=>?_) fun h=>?_
   ·simp only[aG,Bool.not_eq_true',bN]at h;obtain⟨hne,rfl⟩:=h;have hw3:IntKind.wrap .i64 ((k:Int)+1)=((k+1:Nat):Int):=by rw[wI (by omega) (by omega)];rfl
    refine ae.bindE (fun z=>∃a',z=(n-t+u,a',c0,c1,c2,c3,c4,c5,c6,m0,m1,m2,m3,m4,m5,m6,m7,L,oj,ag)/\(k+1<L.length->bf L a'=((k+1:Nat):Int))/\(¬k+1<L.length->bf L a'<0)) ?_ ?_
    ·rw[hw3];refine aw (fun h=>?_) fun h=>?_
     ·simp only[aI]at h;have hk1:k+1<L.length:=by omega
      refine aA (by simp;omega) (cr (show L[(((k+1:Nat):Int)).toNat]? = U L[k+1]from bt hk1) (ae.ret ⟨_,rfl,fun _=>KH hd hk1,fun h=>absurd hk1 h⟩))
     ·simp only[bN]at h;exact ae.ret ⟨_,rfl,fun h'=>by omega,fun _=>zbB hd⟩
    rintro _ ⟨a',rfl,hy,hz⟩;refine ae.bind (call a' (n-t+u) _ oj ag hM2 (fun A B hu h=>⟨hup1 m6.length A B hu h.1,fun hc=>(h.2 hc).up hnn hu⟩) hnn (by omega) fun hB=>?_) ?_
    ·have hk1:=(hsS hB).2.2.1 hne;exact⟨k+1,(hy hk1).symm,hstep hB _ _ ⟨_,ex,.inl ⟨hne,rfl,by rw[ht,hu']⟩⟩,hnu⟩
    ·rintro _ ⟨o',b',rfl,hM3⟩;refine ae.ret ⟨_,_,rfl,fin _ _ (hM3.mono fun⟨g1,⟨k2,e2,g2⟩,g3⟩=>⟨g1,fun _=>?_⟩)⟩;have hk1:k+1<L.length:=Classical.byContradiction fun hh=>by have:=hz hh;omega
     refine⟨hk1,?_⟩;have:=hy hk1;obtain rfl:k2=k+1:=by omega
     exact g2
   ·refine ae.ret ⟨oj,bj,rfl,fin _ _ ?_⟩;cases bj with
    |true=>exact⟨hM2.1,fun h=>by cases h⟩
    | false=>
      have he:gA x1:=Classical.byContradiction fun he=>by simp[he]at h
      exact hM2.mono fun g=>⟨g,fun hne=>absurd he hne⟩
end
end Go.Proofs.YtdpapeledldifaaGreat
end
section
namespace Go.Proofs.YtdpapeledldifaaGreat
open Go Go.AM Go.TM Go.Stow
set_option maxRecDepth 10000
def zcg (op:Int):yq op=U (aa (gA op)):=by
 simp only[yq,i4,av,aF]
 unfold gA;split
 ·rename_i h;simp[h]
 ·rename_i h;simp[h]
def lK {A:List Int}{k:Nat}(h:k<A.length):A[k]? = U (A.getD k (-1)):=by
 rw[bt h,List.getD_eq_getElem?_getD,bt h];rfl
def K8 {A:List Int}{k:Nat}(h:k<A.length)(n:Int):qO (A,(k:Int),n)=U (aa (A.getD k (-1)<0\/A.getD k (-1)=n)):=by
 have e:=lK h
 have:ae (qO (A,(k:Int),n)) fun y=>y=aa (A.getD k (-1)<0\/A.getD k (-1)=n):=by
  unfold qO;refine aA (by simp) (cr (show A[((k:Int)).toNat]? = _ from e) (aw (fun h1=>ae.ret ?_) fun h1=>aA (by simp) (cr (show A[((k:Int)).toNat]? = _ from e) (ae.ret ?_))))
  ·simp only[aI]at h1;exact(decide_eq_true (.inl h1)).symm
  ·simp only[bN]at h1;exact decide_eq_decide.2 ⟨.inr,fun h=>h.resolve_left h1⟩
 obtain⟨_,e,rfl⟩:=this;exact e
section
variable {c0:List Cst}{c1 c2 c3:Int}{c4:List Int}{c5:List Fld}{c6:List Mth}{m0 m1 m2 m3 m4:Int}{m5:List UInt8}{m6:List Trp}{m7:List Frm}{L:List InsP}
def Jt (p:List Stow.Ent)(L:List InsP)(tr:List TrpP)(D:Int)(A:List Int):Prop:=A.length=L.length/\Js (dS p L tr D) (dX p L tr) A/\∀k,A.getD k (-1)<=300
def Md (p:List Stow.Ent)(L:List InsP)(tr:List TrpP)(D:Int)(A:List Int)(N:List Int->Prop)(B:List Int):Prop:=Up A B/\Jt p L tr D B/\N B
def zch {B:List Int}{j:Nat}(hj:j<B.length):B.set j (B.getD j (-1))=B:=by
 refine List.ext_getElem? fun i=>?_
 rw[List.getElem?_set];split
 ·rename_i h;subst h;first|exact(lK hj).symm|rw[if_pos hj,lK hj]
 ·rfl
def Md.note {p:List Stow.Ent}{tr:List TrpP}{D v:Int}{A B:List Int}{N:List Int->Prop}{j:Nat}(h:Md p L tr D A N B)(hN:∀ A B,Up A B->N A->N B)(hj:j<L.length)
  (hf:B.getD j (-1)<0\/B.getD j (-1)=v) (h0:0<=v) (h3:v<=300) (hr:¬Bd (dS p L tr D) (dX p L tr)->fN (dS p L tr D) (dX p L tr) j v):Md p L tr D A (fun X=>N X/\X.getD j (-1)=v) (B.set j v):=by
 obtain⟨u,⟨l,js,b⟩,n⟩:=h;have hjB:j<B.length:=by omega
 have hg:(B.set j v).getD j (-1)=v:=by rw[nT _ _ _ _ hjB,if_pos rfl]
 rcases hf with hf|hf
 ·have u2:=Up.set hjB hf h0;refine⟨u.trans u2,⟨by rw[List.length_set,l],js.set hjB h0 hr,fun k=>?_⟩,hN _ _ u2 n,hg⟩;rw[nT _ _ _ _ hjB];split
  ·exact h3
  ·exact b k
 ·subst hf;rw[zch hjB]at hg ⊢;exact⟨u,⟨l,js,b⟩,n,rfl⟩
def K9 {p:List Stow.Ent}{tr:List TrpP}{D v:Int}{B:List Int}{j:Nat}(js:Js (dS p L tr D) (dX p L tr) B)(hf:¬ (B.getD j (-1)<0\/B.getD j (-1)=v))(hr:¬ Bd (dS p L tr D) (dX p L tr)->fN (dS p L tr D) (dX p L tr) j v):Bd (dS p L tr D) (dX p L tr) :=
 Classical.byContradiction fun hB=>hB (.inr ⟨j,_,_,(js j).2 (by omega) hB,hr hB,fun h=>hf (.inr h)⟩)
def zci (hp:cj c0)(hd:nU c0 L m6 m3 m5.length){A:List Int}{k:Nat}(hk:k<L.length)(hA:Jt c0 L m6 m3 A)(hA0:0<=A.getD k (-1)) :
  ae (yr ((c0,c1,c2,c3,c4,c5,c6),(m0,m1,m2,m3,m4,m5,m6,m7),L,(k:Int),A)) fun y=>∃b B,y=(b,B)/\(b=ag->Bd (dS c0 L m6 m3) (dX c0 L m6))/\(b=ad->Up A B/\Jt c0 L m6 m3 B/\Cl (dS c0 L m6 m3) (dX c0 L m6) B k):=by
 have hLl:=hd.2.2.2.2.2.2.2.2.2.1;have htl:=hd.2.2.2.2.2.2.2.2.2.2;have hD1:=hd.2.2.2.2.2.2.2.1;have hD2:=hd.2.2.2.2.2.2.2.2.1;have hRS:¬Bd (dS c0 L m6 m3) (dX c0 L m6)->∀k n,fN (dS c0 L m6 m3) (dX c0 L m6) k n->dS c0 L m6 m3 k n:=fun hB k n hr=>Classical.byContradiction fun hs=>hB (.inl ⟨k,n,hr,hs⟩)
 obtain⟨hl,hj,hbn⟩:=hA;obtain⟨n,hn⟩:∃n,A.getD k (-1)=n:=⟨_,rfl⟩
 have hn3:=hbn k;have hrk:¬Bd (dS c0 L m6 m3) (dX c0 L m6)->fN (dS c0 L m6 m3) (dX c0 L m6) k n:=fun hB=>by rw[<-hn];exact(hj k).2 hA0 hB
 rw[hn]at hA0 hn3;obtain⟨⟨x0,x1,x2⟩,ex⟩:∃x,L[k]? = U x:=⟨_,bt hk⟩
 have hxm:=cK ex;have q:=zby (c0,c1,c2,c3,c4,c5,c6) (x0,x1,x2) hp (hd.2.1 _ hxm);have ea:A[((k:Int)).toNat]? = U n:=by rw[<-hn];exact lK (by omega)
 unfold yr;refine aA (by simp) (cr (show L[((k:Int)).toNat]? = U (x0,x1,x2)from ex) (ae.bind (P:=fun y=>y=ei c0 (x0,x1,x2)) ⟨_,q,rfl⟩ ?_));rintro _ rfl;obtain⟨⟨hm1,hm2⟩,hm3,hm4⟩:=DB c0 (x0,x1,x2);obtain⟨t,ht⟩:∃t,(ei c0 (x0,x1,x2)).1=t:=⟨_,rfl⟩
 obtain⟨u,hu'⟩:∃u,(ei c0 (x0,x1,x2)).2=u:=⟨_,rfl⟩
 rw[show ei c0 (x0,x1,x2)=(t,u)by rw[<-ht,<-hu']];rw[ht]at hm1 hm2;rw[hu']at hm3 hm4;have hw1:IntKind.wrap .i64 (n-t)=n-t:=wI (by omega) (by omega);have hw2:IntKind.wrap .i64 (n-t+u)=n-t+u:=wI (by omega) (by omega)
 have hsS:¬Bd (dS c0 L m6 m3) (dX c0 L m6)->t<=n/\n-t+u<=m3/\(¬gA x1->k+1<L.length)/\∀tp∈m6,tp.1<=x0->x0<tp.2.1->1<=m3:=fun hB=>by
  obtain⟨y,ey,s1,s2,s3,s4⟩:=hRS hB k n (hrk hB);obtain rfl:=Option.some.inj (ex.symm.trans ey);rw[ht]at s1 s2;rw[hu']at s2;exact⟨s1,s2,s3,s4⟩
 have hstep:¬Bd (dS c0 L m6 m3) (dX c0 L m6)->∀k' n',dX c0 L m6 k n k' n'->fN (dS c0 L m6 m3) (dX c0 L m6) k' n':=fun hB k' n' hx=>(hrk hB).step (hRS hB k n (hrk hB)) hx
 refine aA (by simp;omega) (cr ea ?_);refine ae.bindE (fun z=>z=(L,(k:Int),u,n-t,(m0,m1,m2,m3,m4,m5,m6,m7),(x0,x1,x2),A)/\t<=n/\n-t+u<=m3) ?_ ?_
 ·simp only[hw1,hw2]
  refine aw (fun h=>?_) fun h=>aw (fun h'=>?_) fun h'=>?_
  ·simp only[aI]at h;exact ae.ret ⟨_,_,rfl,fun _=>Classical.byContradiction fun hB=>by have:=(hsS hB).1;omega,fun h=>by cases h⟩
  ·simp only[aI]at h';exact ae.ret ⟨_,_,rfl,fun _=>Classical.byContradiction fun hB=>by have:=(hsS hB).2.1;omega,fun h=>by cases h⟩
  ·simp only[bN]at h h';exact ae.ret ⟨rfl,by omega,by omega⟩
 rintro _ ⟨rfl,htn,hnu⟩;have hv0:0<=n-t+u:=by omega
 refine ae.bindE (fun z=>∃nx:List Int,z=(L,u,n-t,nx,(m0,m1,m2,m3,m4,m5,m6,m7),(x0,x1,x2),A)/\nx.length<=1/\(∀e∈nx,e=((k+1:Nat):Int))/\(¬gA x1->k+1<L.length/\((k+1:Nat):Int)∈nx)/\(nx≠[]->¬gA x1)) (ae.bind (P:=fun y=>y=aa (gA x1)) ⟨_,zcg x1,rfl⟩ ?_) ?_
 ·rintro _ rfl;have hwk:IntKind.wrap .i64 ((k:Int)+1)=((k+1:Nat):Int):=by rw[wI (by omega) (by omega)];rfl
  refine aw (fun h=>?_) fun h=>?_
  ·simp only[Bool.not_eq_true',bN]at h;rw[hwk];refine aw (fun h'=>?_) fun h'=>?_
   ·simp only[aI]at h';exact ae.ret ⟨_,_,rfl,fun _=>Classical.byContradiction fun hB=>by have:=(hsS hB).2.2.1 h;omega,fun h=>by cases h⟩
   ·simp only[bN]at h';exact aA (by decide) (ae.ret ⟨_,rfl,by simp,by simp,fun _=>⟨by omega,by simp⟩,fun _=>h⟩)
  ·simp only[Bool.not_eq_false',aI]at h;exact ae.ret ⟨_,rfl,by simp,by simp,fun h'=>absurd h h',fun h'=>absurd rfl h'⟩
 rintro _ ⟨nx,rfl,hnl,hn1,hn2,hn3'⟩;refine ae.bindE (fun z=>∃ny:List Int,z=(L,u,n-t,ny,(m0,m1,m2,m3,m4,m5,m6,m7),(x0,x1,x2),A)/\ny.length<=2/\(∀e∈ny,0<=e/\e<L.length/\dX c0 L m6 k n e.toNat (n-t+u))/\(¬gA x1->k+1<L.length/\((k+1:Nat):Int)∈ny)/\(14<=x1/\x1<=18->bf L x2∈ny)) (ae.bind (P:=fun y=>y=aa (14<=x1/\x1<=18)) ⟨_,i4 x1 14 18,rfl⟩ ?_) ?_
 ·rintro _ rfl
  have hx1:∀e∈nx,0<=e/\e<L.length/\dX c0 L m6 k n e.toNat (n-t+u):=fun e he=>by
   have hne:¬gA x1:=hn3' (List.ne_nil_of_mem he);have e1:=hn1 e he;have h2:=(hn2 hne).1;refine⟨by omega,by omega,_,ex,.inl ⟨hne,by rw[e1];rfl,by rw[ht,hu']⟩⟩
  refine aw (fun h=>?_) fun h=>?_
  ·simp only[aI]at h;refine ae.bind (P:=fun y=>y=bf L x2) ⟨_,ua L x2 (by omega),rfl⟩ ?_;rintro _ rfl;have ho:0<=bf L x2:=hd.2.2.2.2.2.1 _ hxm h;have hlt:=DC L x2;refine aA (by simp;omega) (ae.ret ⟨_,rfl,by simp;omega,fun e he=>?_,fun h'=>⟨(hn2 h').1,List.mem_append_left _ (hn2 h').2⟩,fun _=>by simp⟩);rcases List.mem_append.1 he with he|he
   ·exact hx1 e he
   ·simp only[List.mem_singleton]at he;subst he;exact⟨ho,hlt,_,ex,.inr (.inl ⟨h,by show(((bf L x2).toNat:Nat):Int)=bf L x2;omega,by rw[ht,hu']⟩)⟩
  ·simp only[bN]at h;exact ae.ret ⟨_,rfl,by omega,hx1,hn2,fun h'=>absurd h' h⟩
 rintro _ ⟨ny,rfl,hyl,hy1,hy2,hy3⟩
 have hup1:∀(i:Nat) (A B:List Int),Up A B->(∀j,j<i->∀e,ny[j]? = U e->A.getD e.toNat (-1)=n-t+u)->∀j,j<i->∀e,ny[j]? = U e->B.getD e.toNat (-1)=n-t+u :=
  fun i A B hu h j hj e he=>by rw[hu.2.2 _ (by rw[h j hj e he];exact hv0)];exact h j hj e he
 refine ae.bindE (fun z=>∃B,z=(L,(m0,m1,m2,m3,m4,m5,m6,m7),(x0,x1,x2),B)/\Md c0 L m6 m3 A (fun B=>∀j,j<ny.length->∀e,ny[j]? = U e->B.getD e.toNat (-1)=n-t+u) B)
  (ae.loop (fun z=>∃(i:Nat) (B:List Int),z=(L,u,n-t,ny,(i:Int),(m0,m1,m2,m3,m4,m5,m6,m7),(x0,x1,x2),B)/\i<=ny.length/\Md c0 L m6 m3 A (fun B=>∀j,j<i->∀e,ny[j]? = U e->B.getD e.toNat (-1)=n-t+u) B)
   (fun z=>ny.length-z.2.2.2.2.1.toNat) ?_ ⟨0,A,rfl,Nat.zero_le _,D1 _,⟨hl,hj,hbn⟩,fun j hj=>absurd hj (Nat.not_lt_zero _)⟩) ?_
 ·rintro _ ⟨i,B,rfl,hi,hM⟩;refine aw (fun h=>?_) fun h=>?_
  ·simp only[aI]at h;have hil:i<ny.length:=by omega
   obtain⟨e,ee⟩:∃e,ny[i]? = U e:=⟨_,bt hil⟩
   obtain⟨e0,e1,e2⟩:=hy1 e (cK ee);obtain⟨j,rfl⟩:∃j:Nat,e=j:=⟨e.toNat,by omega⟩
   have hw3:IntKind.wrap .i64 ((i:Int)+1)=((i+1:Nat):Int):=by rw[wI (by omega) (by omega)];rfl
   have hjl:j<L.length:=by omega
   have hBl:=hM.2.1.1;have gg:(aa ((0:Int)<=(i:Int))&&aa ((i:Int)<(ny.length:Int)))=ad:=by simp;omega
   simp only[hw2]
   refine aA gg (cr (show ny[((i:Int)).toNat]? = _ from ee) (ae.bind (P:=fun y=>y=aa (B.getD j (-1)<0\/B.getD j (-1)=n-t+u)) ⟨_,K8 (by omega) _,rfl⟩ ?_));rintro _ rfl;refine aw (fun hc=>?_) fun hc=>?_
   ·simp only[Bool.not_eq_true',bN]at hc;exact ae.ret ⟨_,_,rfl,fun _=>K9 hM.2.1.2.1 hc fun hB=>hstep hB _ _ e2,fun h=>(by cases h)⟩
   ·simp only[Bool.not_eq_false',aI]at hc;refine aA gg (cr (show ny[((i:Int)).toNat]? = _ from ee) (aA (by simp;omega) (cr (show B[((j:Int)).toNat]? = _ from lK (by omega)) (ae.ret ⟨⟨i+1,_,by rw[hw3],by omega,?_⟩,?_⟩))))
    ·have hM2:=hM.note (hup1 i) hjl hc hv0 (by omega) fun hB=>hstep hB _ _ e2
     refine⟨hM2.1,hM2.2.1,fun j' hj' e' he'=>?_⟩;by_cases hji:j'<i
     ·exact hM2.2.2.1 j' hji e' he'
     ·obtain rfl:j'=i:=by omega
      obtain rfl:=Option.some.inj (ee.symm.trans he');exact hM2.2.2.2
    ·show ny.length-(IntKind.wrap .i64 ((i:Int)+1)).toNat<ny.length-((i:Int)).toNat;rw[hw3];omega
  ·simp only[bN]at h;obtain rfl:i=ny.length:=by omega
   exact ae.ret ⟨B,rfl,hM⟩
 rintro _ ⟨B,rfl,hM⟩
 have hup2:∀(i:Nat) (A B:List Int),Up A B->((∀j,j<ny.length->∀e,ny[j]? = U e->A.getD e.toNat (-1)=n-t+u)/\∀j,j<i->∀tp,m6[j]? = U tp->tp.1<=x0/\x0<tp.2.1->A.getD (bf L tp.2.2.1).toNat (-1)=1/\1<=m3)->(∀j,j<ny.length->∀e,ny[j]? = U e->B.getD e.toNat (-1)=n-t+u)/\∀j,j<i->∀tp,m6[j]? = U tp->tp.1<=x0/\x0<tp.2.1->B.getD (bf L tp.2.2.1).toNat (-1)=1/\1<=m3 :=
  fun i A B hu h=>⟨hup1 _ A B hu h.1,fun j hj tp e hc=>⟨by rw[hu.2.2 _ (by rw[(h.2 j hj tp e hc).1];omega)];exact(h.2 j hj tp e hc).1,(h.2 j hj tp e hc).2⟩⟩
 refine ae.bindE (fun z=>Md c0 L m6 m3 A (fun B=>(∀j,j<ny.length->∀e,ny[j]? = U e->B.getD e.toNat (-1)=n-t+u)/\∀j,j<m6.length->∀tp,m6[j]? = U tp->tp.1<=x0/\x0<tp.2.1->B.getD (bf L tp.2.2.1).toNat (-1)=1/\1<=m3) z)
  (ae.loop (fun z=>∃(i:Nat) (B:List Int),z=(L,(i:Int),(m0,m1,m2,m3,m4,m5,m6,m7),(x0,x1,x2),B)/\i<=m6.length/\Md c0 L m6 m3 A (fun B=>(∀j,j<ny.length->∀e,ny[j]? = U e->B.getD e.toNat (-1)=n-t+u)/\∀j,j<i->∀tp,m6[j]? = U tp->tp.1<=x0/\x0<tp.2.1->B.getD (bf L tp.2.2.1).toNat (-1)=1/\1<=m3) B)
   (fun z=>m6.length-z.2.1.toNat) ?_ ⟨0,B,rfl,Nat.zero_le _,hM.1,hM.2.1,hM.2.2,fun j hj=>absurd hj (Nat.not_lt_zero _)⟩) ?_
 ·rintro _ ⟨i,B,rfl,hi,hM⟩;refine aw (fun h=>?_) fun h=>?_
  ·simp only[aI]at h;have hil:i<m6.length:=by omega
   obtain⟨⟨t0,t1,t2,t3⟩,et⟩:∃tp,m6[i]? = U tp:=⟨_,bt hil⟩
   have hw3:IntKind.wrap .i64 ((i:Int)+1)=((i+1:Nat):Int):=by rw[wI (by omega) (by omega)];rfl
   have hBl:=hM.2.1.1
   have nxt:∀B',Md c0 L m6 m3 A (fun B=>(∀j,j<ny.length->∀e,ny[j]? = U e->B.getD e.toNat (-1)=n-t+u)/\∀j,j<i+1->∀tp,m6[j]? = U tp->tp.1<=x0/\x0<tp.2.1->B.getD (bf L tp.2.2.1).toNat (-1)=1/\1<=m3) B' ->
     (∃(i':Nat) (B:List Int),(L,IntKind.wrap .i64 ((i:Int)+1),(m0,m1,m2,m3,m4,m5,m6,m7),(x0,x1,x2),B')=(L,(i':Int),(m0,m1,m2,m3,m4,m5,m6,m7),(x0,x1,x2),B)/\i'<=m6.length/\Md c0 L m6 m3 A (fun B=>(∀j,j<ny.length->∀e,ny[j]? = U e->B.getD e.toNat (-1)=n-t+u)/\∀j,j<i'->∀tp,m6[j]? = U tp->tp.1<=x0/\x0<tp.2.1->B.getD (bf L tp.2.2.1).toNat (-1)=1/\1<=m3) B) /\
      m6.length-(IntKind.wrap .i64 ((i:Int)+1)).toNat<m6.length-((i:Int)).toNat:=fun B' h=>⟨⟨i+1,B',by rw[hw3],by omega,h⟩,by rw[hw3];omega⟩
   have skip:¬(t0<=x0/\x0<t1)->Md c0 L m6 m3 A (fun B=>(∀j,j<ny.length->∀e,ny[j]? = U e->B.getD e.toNat (-1)=n-t+u)/\∀j,j<i+1->∀tp,m6[j]? = U tp->tp.1<=x0/\x0<tp.2.1->B.getD (bf L tp.2.2.1).toNat (-1)=1/\1<=m3) B:=fun hc=>
    ⟨hM.1,hM.2.1,hM.2.2.1,fun j' hj' tp' e' hcv=>by
     by_cases hji:j'<i
     ·exact hM.2.2.2 j' hji tp' e' hcv
     ·obtain rfl:j'=i:=by omega
      obtain rfl:=Option.some.inj (et.symm.trans e')
      exact absurd hcv hc⟩
   refine ae.bindE (fun z=>∃B',z=(L,(i:Int),(m0,m1,m2,m3,m4,m5,m6,m7),(x0,x1,x2),B')/\Md c0 L m6 m3 A (fun B=>(∀j,j<ny.length->∀e,ny[j]? = U e->B.getD e.toNat (-1)=n-t+u)/\∀j,j<i+1->∀tp,m6[j]? = U tp->tp.1<=x0/\x0<tp.2.1->B.getD (bf L tp.2.2.1).toNat (-1)=1/\1<=m3) B')
    (aA (by simp) (cr (show m6[((i:Int)).toNat]? = _ from et) (ae.bind (P:=fun y=>y=bf L t2) ⟨_,ua L t2 (by omega),rfl⟩ ?_))) ?_
   ·rintro _ rfl;have ho:0<=bf L t2:=hd.2.2.2.2.2.2.1 _ (cK et);have hlt:=DC L t2;obtain⟨j,hjo⟩:∃j:Nat,bf L t2=j:=⟨(bf L t2).toNat,by omega⟩
    rw[hjo]at ho hlt ⊢;refine ae.bindE (fun z=>z=(L,(i:Int),(j:Int),(m0,m1,m2,m3,m4,m5,m6,m7),(x0,x1,x2),B)/\t0<=x0/\x0<t1) ?_ ?_
    ·refine aw (fun h=>?_) fun h=>aw (fun h'=>?_) fun h'=>?_
     ·simp only[aI]at h;exact ae.ret ⟨B,rfl,skip (by omega)⟩
     ·simp only[aI]at h';exact ae.ret ⟨B,rfl,skip (by omega)⟩
     ·simp only[bN]at h h';exact ae.ret ⟨rfl,by omega,by omega⟩
    rintro _ ⟨rfl,hc1,hc2⟩;have hdx:dX c0 L m6 k n j 1:=⟨_,ex,.inr (.inr ⟨_,cK et,hc1,hc2,hjo.symm,rfl⟩)⟩
    refine ae.bind (P:=fun y=>y=aa (B.getD j (-1)<0\/B.getD j (-1)=1)) ⟨_,K8 (by omega) _,rfl⟩ ?_;rintro _ rfl;refine aw (fun hc=>?_) fun hc=>aw (fun h1=>?_) fun h1=>?_
    ·simp only[Bool.not_eq_true',bN]at hc;exact ae.ret ⟨_,_,rfl,fun _=>K9 hM.2.1.2.1 hc fun hB=>hstep hB _ _ hdx,fun h=>(by cases h)⟩
    ·simp only[aI]at h1;exact ae.ret ⟨_,_,rfl,fun _=>Classical.byContradiction fun hB=>by have:=(hsS hB).2.2.2 _ (cK et) hc1 hc2;omega,fun h=>(by cases h)⟩
    ·simp only[Bool.not_eq_false',aI]at hc;simp only[bN]at h1;refine aA (by simp;omega) (cr (show B[((j:Int)).toNat]? = _ from lK (by omega)) (ae.ret ⟨_,rfl,?_⟩));have hM2:=hM.note (hup2 i) (j:=j) (by omega) hc (by omega) (by omega) fun hB=>hstep hB _ _ hdx
     refine⟨hM2.1,hM2.2.1,hM2.2.2.1.1,fun j' hj' tp' e' hcv=>?_⟩;by_cases hji:j'<i
     ·exact hM2.2.2.1.2 j' hji tp' e' hcv
     ·obtain rfl:j'=i:=by omega
      obtain rfl:=Option.some.inj (et.symm.trans e');refine⟨?_,by omega⟩;show(B.set j 1).getD (bf L t2).toNat (-1)=1;rw[hjo];exact hM2.2.2.2
   ·rintro _ ⟨B',rfl,hM'⟩;exact ae.ret (nxt B' hM')
  ·simp only[bN]at h;obtain rfl:i=m6.length:=by omega
   exact ae.ret hM
 rintro B hM;obtain⟨hU,hJ,hN1,hN2⟩:=hM;have ek:B.getD k (-1)=n:=by rw[hU.2.2 k (by rw[hn];exact hA0),hn]
 refine ae.ret ⟨_,_,rfl,fun h=>(by cases h),fun _=>⟨hU,hJ,⟨_,ex,?_,?_,fun hne=>(hy2 hne).1,fun tp htp h1 h2=>?_⟩,?_⟩⟩
 ·rw[ek,ht];exact htn
 ·rw[ek,ht,hu'];exact hnu
 ·obtain⟨j,hj,e⟩:=List.getElem_of_mem htp;exact(hN2 j hj tp (by rw[bt hj,e]) ⟨h1,h2⟩).2
 ·rw[ek]
  have mem:∀e,e∈ny->B.getD e.toNat (-1)=n-t+u:=fun e he=>by
   obtain⟨j,hj,e'⟩:=List.getElem_of_mem he;exact hN1 j hj e (by rw[bt hj,e'])
  rintro k' n' ⟨y,ey,hy⟩;obtain rfl:=Option.some.inj (ex.symm.trans ey);rw[ht,hu']at hy;rcases hy with⟨hne,rfl,rfl⟩|⟨hc,he,rfl⟩|⟨tp,htp,h1,h2,he,rfl⟩
  ·exact mem _ (hy2 hne).2
  ·have:=mem _ (hy3 hc);rw[<-he]at this;exact this
  ·obtain⟨j,hj,e⟩:=List.getElem_of_mem htp;have:=(hN2 j hj tp (by rw[bt hj,e]) ⟨h1,h2⟩).1;rw[<-he]at this;exact this
end
end Go.Proofs.YtdpapeledldifaaGreat
end
section
namespace Go.Stow
open Classical in
noncomputable def dE (m:MthP):MthP:=if aO m.1 8 then m else dI m
def DN (m:MthP):(dE m).1=m.1/\(dE m).2.1=m.2.1/\(dE m).2.2.1=m.2.2.1:=by
 unfold dE;split
 ·exact⟨rfl,rfl,rfl⟩
 ·exact⟨rfl,rfl,rfl⟩
def DO {m:MthP}(h:aO m.1 8):dE m=m:=by unfold dE;rw[if_pos h]
def uf {m:MthP}(h:¬ aO m.1 8):dE m=dI m:=by unfold dE;rw[if_neg h]
end Go.Stow
namespace Go.Proofs.YtdpapeledldifaaGreat
open Go Go.AM Go.TM Go.Stow
def za (c:Cls):mL c=(c.1,c.2.1,c.2.2.1,c.2.2.2.1,c.2.2.2.2.1,c.2.2.2.2.2.1,c.2.2.2.2.2.2.map dE):=by
 unfold mL;congr
def zcj (l:List UInt8)(v:Mth)(r:List UInt8)(h:f9 l=U (v,r)):g_ v.1->v.2.2.2.1=0/\v.2.2.2.2.1=0/\v.2.2.2.2.2.1=[]/\v.2.2.2.2.2.2.1=[]/\v.2.2.2.2.2.2.2=[]:=by
 obtain⟨⟨f,l1⟩,h1,h⟩:=ca h;obtain⟨⟨n,l2⟩,h2,h⟩:=ca h;obtain⟨⟨d,l3⟩,h3,h⟩:=ca h;simp only at h;unfold m3 at h;by_cases c:g_ f
 ·rw[if_pos c]at h;simp only[aK,bH]at h;obtain⟨rfl,-⟩:=h;exact fun _=>⟨rfl,rfl,rfl,rfl,rfl⟩
 ·rw[if_neg c]at h;obtain⟨⟨s,l4⟩,h4,h⟩:=ca h;obtain⟨⟨lo,l5⟩,h5,h⟩:=ca h;obtain⟨⟨k,l6⟩,h6,h⟩:=ca h;simp only at h;unfold b5 at h;split at h
  ·cases h
  obtain⟨⟨code,l7⟩,h7,h⟩:=ca h;obtain⟨⟨tr,l8⟩,h8,h⟩:=ca h;obtain⟨⟨fr,l9⟩,h9,h⟩:=ca h;simp only[aK,bH]at h;obtain⟨rfl,-⟩:=h;exact fun e=>absurd e c
def zck {l:List UInt8}{c:Cls}{r:List UInt8}(h:hZ l=U (c,r)):∀m∈c.2.2.2.2.2.2,g_ m.1->m.2.2.2.1=0/\m.2.2.2.2.1=0/\m.2.2.2.2.2.1=[]/\m.2.2.2.2.2.2.1=[]/\m.2.2.2.2.2.2.2=[]:=by
 obtain⟨⟨t,l1⟩,h1,h⟩:=ca h;simp only at h;unfold iY at h;split at h
 ·cases h
 obtain⟨⟨p,l2⟩,h2,h⟩:=ca h;obtain⟨⟨f,l3⟩,h3,h⟩:=ca h;obtain⟨⟨n,l4⟩,h4,h⟩:=ca h;obtain⟨⟨s,l5⟩,h5,h⟩:=ca h;obtain⟨⟨fa,l6⟩,h6,h⟩:=ca h;obtain⟨⟨fi,l7⟩,h7,h⟩:=ca h;obtain⟨⟨ms,l8⟩,h8,h⟩:=ca h;simp only[aK,bH]at h;obtain⟨rfl,-⟩:=h;exact(mI (P:=fun m:Mth=>g_ m.1->m.2.2.2.1=0/\m.2.2.2.2.1=0/\m.2.2.2.2.2.1=[]/\m.2.2.2.2.2.2.1=[]/\m.2.2.2.2.2.2.2=[]) zcj h8).2
def zcl {c:Cls}(hput:put c≠[])(h0:cP c=0):put (mL c)≠[]/\cP (mL c)=0/\mL (mL c)=mL c:=by
 obtain⟨hf,h900,hgot⟩:=zbT hput;obtain⟨g1,g2,g3,g4,g5⟩:=pA h0;have habs:=zck hgot;have hpool:kV c.1:=C6.1 g1;have hceq:=pg c hf;rw[za];obtain⟨c0,c1,c2,c3,c4,c5,ms⟩:=c;obtain⟨⟨k1,k2,k3,k4⟩,f1,f2,f3,f4,f5,f6,f7⟩:=hf;simp only at k1 k2 k3 k4 f1 f2 f3 f4 f5 f6 f7 habs hpool;have hbod:∀m∈ms,¬aO m.1 8->eB c0 m:=g5
 have hfit:∀m∈ms,jm (dE m)/\DG (dE m)/\(dH tS cI (dE m)).length<=(dH tS cI m).length/\dE (dE m)=dE m:=by
  intro m hm;have hm1:=f7 m hm;by_cases hh:aO m.1 8
  ·rw[DO hh];have ha:=habs m hm ((y_ hm1.1).2 hh);exact⟨hm1,⟨fun _=>ha,by rw[ha.2.2.2.2];simp⟩,bI _,DO hh⟩
  ·rw[uf hh];have hb:=hbod m hm hh;obtain⟨a1,a2,a3⟩:=zbS hm1 hb;have hh':¬aO (dI m).1 8:=hh;refine⟨a1,⟨fun hx=>absurd ((y_ a1.1).1 hx) hh',a2⟩,a3,?_⟩;rw[uf hh'];exact(DA hb (by have:=hm1.2.2.2.2.2.1;omega)).2.2.2.2.1
 have hf':gd (c0,c1,c2,c3,c4,c5,ms.map dE):=by
  refine⟨⟨k1,k2,k3,by simp only[dG];exact k4⟩,f1,f2,f3,f4,f5,f6,fun m hm=>?_⟩;obtain⟨m',hm',rfl⟩:=List.mem_map.1 hm;exact(hfit m' hm').1
 have hrt:=zbQ hf' (fun e he=>by
  obtain⟨i,hi,rfl⟩:=List.mem_iff_getElem.1 he
  exact zbJ (hpool i hi)) (fun m hm=>by
  obtain⟨m',hm',rfl⟩:=List.mem_map.1 hm
  exact(hfit m' hm').2.1)
 have hle:=zbU (c0:=c0) (c1:=c1) (c2:=c2) (c3:=c3) (c4:=c4) (c5:=c5) (ms:=ms) dE fun m hm=>(hfit m hm).2.2.1
 have hceq':=pg _ hf';refine⟨?_,?_,?_⟩
 ·rw[C1 ⟨hf',?_,?_⟩]
  ·unfold cH;simp
  ·rw[<-hceq'];rw[<-hceq]at h900;exact Nat.le_trans hle h900
  ·rw[<-hceq'];exact hrt
 ·have e:∀i,i<ms.length->(ms.map dE).getD i aN=dE (ms.getD i aN):=fun i hi=>zbR hi
  refine DD g1 g2 g3 ?_ ?_
  ·intro i hi;have hi:i<ms.length:=by simpa using hi
   have h:=g4 i hi;simp only[yJ]at h ⊢;rw[e i hi];obtain⟨e1,e2,e3⟩:=DN (ms.getD i aN);obtain⟨a1,a2,a3,a4⟩:=h;rw[e2,e3];refine⟨a1,a2,?_,fun k hk=>?_⟩
   ·unfold lG at a3 ⊢;rw[e1,e2,e3];exact a3
   ·rw[e k (by omega)];obtain⟨_,d2,d3⟩:=DN (ms.getD k aN);rw[d2,d3];exact a4 k hk
  ·intro m hm hn;obtain⟨m',hm',rfl⟩:=List.mem_map.1 (show m∈ms.map dE from hm);rw[(DN m').1]at hn;rw[uf hn];exact(DA (hbod m' hm' hn) (by have:=(f7 m' hm').2.2.2.2.2.1;omega)).1
 ·rw[za];simp only[List.map_map]
  congr 6;exact List.map_congr_left fun m hm=>(hfit m hm).2.2.2
def q38 (c:Cls)(hb:fK c):qP c=U (if put c≠[]/\cP c=0 then mL c else([],0,0,0,[],[],[])):=by
 have c29:=KU c hb;have h92:=j92 c hb;by_cases hput:put c=[]
 ·rw[if_pos hput]at c29;rw[if_neg (fun h=>h.1 hput)];obtain⟨c0,c1,c2,c3,c4,c5,ms⟩:=c;simp only[qP,c29,av,show ¬((1:Int)=0)by omega,bm,Bool.not_false,aP]
 rw[if_neg hput]at c29;by_cases h0:cP c=0
 ·rw[if_pos ⟨hput,h0⟩,za];rw[h0]at c29;have hf:=jQ hput;have hbod:=(pA h0).2.2.2.2;obtain⟨c0,c1,c2,c3,c4,c5,ms⟩:=c;have f7:∀m∈ms,jm m:=hf.2.2.2.2.2.2.2;have hlen:ms.length<=6:=hf.1.2.2.2;have hbod:∀m∈ms,¬aO m.1 8->eB c0 m:=hbod;simp only[qP,c29,av,ay,Bool.not_true,aQ,h92]
  refine(KL (fun j a=>((ms.length:Int),(j:Int),([],0,0,0,[],[],[]),(c0,c1,c2,c3,c4,c5),a)) (fun a=>(([],0,0,0,[],[],[]),c0,c1,c2,c3,c4,c5,a)) dE ms rfl (by omega) ?_ ?_).trans rfl
  ·intro a ha;simp only[ha,bG,bm,aQ]
  ·intro a x b hx hab;have j1:(a.length:Int)<(ms.length:Int):=by omega
   have j2:(a.length:Int)<((a++x::b).length:Int):=by simp only[aR,bD];omega
   have hx1:=f7 x hx;simp only[j1,j2,ay,aP,ko,bp,aC,aY,KJ,CU,av,bQ]
   by_cases hh:aO x.1 8
   ·have ha:dN x.1=ad:=by rw[<-CY _ hx1.1];exact(yY hx1.1.1 hx1.1.2).2 ((y_ hx1.1).2 hh)
    rw[ha,Bool.not_true,aQ,DO hh];simp only[aJ,wn (show a.length<=1048576 by omega)]
   ·have ha:dN x.1=ag:=by
     rw[<-CY _ hx1.1];exact Bool.eq_false_iff.2 fun h=>hh ((y_ hx1.1).1 ((yY hx1.1.1 hx1.1.2).1 h))
    rw[ha,Bool.not_false,aP,uf hh];have q:=zcb x (hbod x hx hh) hx1.2.2.2.2.2.1 (by have:=hx1.2.2.2.2.2.2.1.1;omega) (by have:=hx1.2.2.2.2.2.2.2.1;omega);have q':tW (x.1,x.2.1,x.2.2.1,x.2.2.2.1,x.2.2.2.2.1,x.2.2.2.2.2.1,x.2.2.2.2.2.2.1,x.2.2.2.2.2.2.2)=U (dI x):=q;simp only[q',av,KK,aJ,wn (show a.length<=1048576 by omega)]
 ·rw[if_neg (fun h=>h0 h.2)];obtain⟨c0,c1,c2,c3,c4,c5,ms⟩:=c;simp only[qP,c29,av,h0,bm,Bool.not_false,aP]
end Go.Proofs.YtdpapeledldifaaGreat
end
section
namespace Go.Proofs.YtdpapeledldifaaGreat
open Go Go.AM Go.TM Go.Stow
set_option maxRecDepth 10000
def DP {c:Cls}(hput:put c≠[])(h0:cP c=0){m:Mth}(hm:m∈c.2.2.2.2.2.2)(hh:¬ aO m.1 8):nU c.1 (bx m.2.2.2.2.2.1).1 m.2.2.2.2.2.2.1 m.2.2.2.1 m.2.2.2.2.2.1.length/\0<=m.2.2.2.1:=by
 have hf:=(jQ hput).2.2.2.2.2.2.2 m hm;obtain⟨_,_,_,hi,_,hcd,⟨htr,_⟩,_,_⟩:=hf;obtain⟨ho,hd,_,hin,htp,_⟩:=(pA h0).2.2.2.2 m hm hh;obtain⟨hne,hg,hp,hend⟩:=yV ho;have hl:=pq m.2.2.2.2.2.1;have hi0:0<=m.2.2.2.1/\m.2.2.2.1<=255:=hi;exact⟨⟨hne,fun x hx=>(hg x hx).1,hp,hend,fun x hx=>(hin x hx).2.2,fun x hx=>(hin x hx).2.1,fun t ht=>(htp t ht).2.2.2.1,by omega,by omega,by omega,by omega⟩,hi0.1⟩
section
variable {p:List Stow.Ent}{L:List InsP}{tr:List TrpP}{D:Int}
def zcm (h0:0<=D){k n}(r:fN (dS p L tr D) (dX p L tr) k n):n<=D:=by
 cases r with
 |zero=>exact h0
 | step hr hs hx=>
   obtain⟨x,ex,hx⟩:=hx;obtain⟨y,ey,_,s2,_,s4⟩:=hs;obtain rfl:=Option.some.inj (ex.symm.trans ey);rcases hx with⟨_,_,rfl⟩|⟨_,_,rfl⟩|⟨t,ht,h1,h2,_,rfl⟩
   ·exact s2
   ·exact s2
   ·exact s4 t ht h1 h2
def DQ (n k:Nat):(List.replicate n (-1:Int)).getD k (-1) = -1:=by
 rw[List.getD_eq_getElem?_getD,List.getElem?_replicate];split<;>rfl
def K_ (L':Nat):Js (dS p L tr D) (dX p L tr) (List.replicate L' (-1)):=fun k=>by
 rw[DQ];exact⟨by omega,fun h=>by omega⟩
def zcn (n:Nat):mK (List.replicate n (-1:Int))=n:=by
 unfold mK;rw[List.filter_replicate];simp
def jv (p:List Stow.Ent)(L:List InsP)(tr:List TrpP)(D:Int)(y:List Int):Prop:=(y=[]/\Bd (dS p L tr D) (dX p L tr))\/(Gd (dS p L tr D) (dX p L tr) y/\y.length=L.length)
def jv.same {y z:List Int}(h:jv p L tr D y)(g:jv p L tr D z):y=z:=by
 rcases h with⟨rfl,hb⟩|⟨h,hl⟩<;>rcases g with⟨rfl,gb⟩|⟨g,gl⟩
 ·rfl
 ·exact absurd hb (g.fine rj)
 ·exact absurd gb (h.fine rj)
 ·exact h.same g rj (hl.trans gl.symm)
def jv.len {y:List Int}(h:jv p L tr D y):y.length<=L.length:=by
 rcases h with⟨rfl,_⟩|⟨_,h⟩
 ·simp
 ·omega
def jv.val {y:List Int}(h:jv p L tr D y)(h0:0<=D){k:Nat}(hk:k<y.length):y[k]? = U (y.getD k (-1)) /\ -1<=y.getD k (-1)/\y.getD k (-1)<=D/\y.getD 0 (-1)=0:=by
 refine⟨lK hk,?_⟩;rcases h with⟨rfl,_⟩|⟨h,_⟩
 ·exact absurd hk (Nat.not_lt_zero _)
 ·refine⟨(h.2.1 k).1,?_,h.1⟩;by_cases hn:0<=y.getD k (-1)
  ·exact zcm h0 ((h.2.1 k).2 hn (h.fine rj))
  ·omega
end
def KD (c:Cls)(i:Int)(y:List Int):Prop:=if put c≠[]/\cP c=0/\(0<=i/\i<=(c.2.2.2.2.2.2.length:Int)-1)/\¬aO (c.2.2.2.2.2.2.getD i.toNat aN).1 8 then
 jv c.1 (bx (c.2.2.2.2.2.2.getD i.toNat aN).2.2.2.2.2.1).1 (c.2.2.2.2.2.2.getD i.toNat aN).2.2.2.2.2.2.1 (c.2.2.2.2.2.2.getD i.toNat aN).2.2.2.1 y else y=[]
def KD.same {c:Cls}{i:Int}{y z:List Int}(h:KD c i y)(g:KD c i z):y=z:=by
 unfold KD at h g;split at h
 ·rename_i hc;rw[if_pos hc]at g;exact h.same g
 ·rename_i hc;rw[if_neg hc]at g;rw[h,g]
def KD.no {c:Cls}{i:Int}(h:¬ (put c≠[]/\cP c=0/\(0<=i/\i<=(c.2.2.2.2.2.2.length:Int)-1)/\¬ aO (c.2.2.2.2.2.2.getD i.toNat aN).1 8)):KD c i []:=by unfold KD;rw[if_neg h]
def LH {c:Cls}{i:Int}{y:List Int}(h:put c≠[]/\cP c=0/\(0<=i/\i<=(c.2.2.2.2.2.2.length:Int)-1)/\¬ aO (c.2.2.2.2.2.2.getD i.toNat aN).1 8)
  (g:jv c.1 (bx (c.2.2.2.2.2.2.getD i.toNat aN).2.2.2.2.2.1).1 (c.2.2.2.2.2.2.getD i.toNat aN).2.2.2.2.2.2.1 (c.2.2.2.2.2.2.getD i.toNat aN).2.2.2.1 y):KD c i y:=by unfold KD;rw[if_pos h];exact g
def rl {ms:List Mth}{i:Int}(h:0<=i/\i<=(ms.length:Int)-1):ms[i.toNat]? = U (ms.getD i.toNat aN)/\ms.getD i.toNat aN∈ms:=by
 have hl:i.toNat<ms.length:=by omega
 have e:ms[i.toNat]? = U (ms.getD i.toNat aN):=by
  rw[bt hl,List.getD_eq_getElem?_getD,bt hl];rfl
 exact⟨e,cK e⟩
section
variable {c0:List Cst}{c1 c2 c3:Int}{c4:List Int}{c5:List Fld}{c6:List Mth}{m0 m1 m2 m3 m4:Int}{m5:List UInt8}{m6:List Trp}{m7:List Frm}{L:List InsP}
def zco (hp:cj c0)(hok:kV c0)(hd:nU c0 L m6 m3 m5.length)(h0:0<=m3)(hf:L.length<200) :
  ae (CB (0,0,c0,c1,c2,c3,c4,c5,c6,m0,m1,m2,m3,m4,m5,m6,m7,L,List.replicate L.length (-1),ag)) fun y=>∃out' bad,y=(c0,c1,c2,c3,c4,c5,c6,m0,m1,m2,m3,m4,m5,m6,m7,L,out',bad)/\jv c0 L m6 m3 (bif bad then []else out'):=by
 have hz:=KI hd;have hLl:=hd.2.2.2.2.2.2.2.2.2.1;refine(zcf hp hok hd _ 0 0 _ (by simp) (K_ _) (by rw[zcn];omega) (by omega) (by omega) fun _=>⟨0,hz.symm,.zero,h0⟩).mono ?_;rintro _ ⟨o,b,rfl,hB,hP⟩;refine⟨o,b,rfl,?_⟩;cases b with
 |true=>exact .inl ⟨rfl,hB rfl⟩
 | false=>
   obtain⟨u,j,⟨k,ek,e0⟩,_,hcl⟩:=hP rfl;obtain rfl:k=0:=by have:=ek.trans hz;omega
   refine .inr ⟨⟨e0,j,fun q hq=>hcl q (by rw[DQ];omega) hq⟩,?_⟩;rw[cond_false,u.1,List.length_replicate]
def Dn (p:List Stow.Ent)(L:List InsP)(tr:List TrpP)(D:Int)(A:List Int)(d:List Bool):Prop:=Jt p L tr D A/\d.length=L.length/\A.getD 0 (-1)=0/\∀k,d.getD k ag=ad->0<=A.getD k (-1)/\Cl (dS p L tr D) (dX p L tr) A k
def zcp (d:List Bool)(k j:Nat)(hk:k<d.length):(d.set k ad).getD j ag=if j=k then ad else d.getD j ag:=by
 rw[List.getD_eq_getElem?_getD,List.getElem?_set,List.getD_eq_getElem?_getD];by_cases h:j=k
 ·subst h;rw[if_pos rfl,if_pos rfl,if_pos hk];rfl
 ·rw[if_neg fun e=>h e.symm,if_neg h]
def fh (d:List Bool):Nat:=(d.filter fun x=>!x).length
def zcq (d:List Bool)(k:Nat)(hk:k<d.length)(h:d.getD k ag=ag):fh (d.set k ad)+1=fh d:=by
 induction d generalizing k with
 |nil=>exact absurd hk (Nat.not_lt_zero _)
 | cons x d ih=>
   cases k with
   | zero=>
     have hx:x=ag:=h;subst hx;rfl
   | succ k=>
     have:=ih k (by simpa using hk) h;unfold fh at this ⊢;rw[List.set_cons_succ,List.filter_cons,List.filter_cons];split
     ·rw[bD,bD];omega
     ·exact this
def zcr (hp:cj c0)(hd:nU c0 L m6 m3 m5.length)(h0:0<=m3)(hv:bx m5=(L,ad))(h5:m5.length<=1048576) :
  ae (yt ((c0,c1,c2,c3,c4,c5,c6),m0,m1,m2,m3,m4,m5,m6,m7)) fun y=>jv c0 L m6 m3 y:=by
 have hLl:=hd.2.2.2.2.2.2.2.2.2.1;have hne:0<L.length:=List.length_pos_iff.2 hd.1;have hz:=KI hd;unfold yt;refine ae.bind (P:=fun y=>y=(L,ad)) ⟨_,(Kj m5 h5).trans (by rw[hv]),rfl⟩ ?_;rintro _ rfl;refine aA (by simp;omega) (aA (by simp;omega) ?_);rw[aY]
 refine ae.bindE (fun z=>z=(L,List.replicate L.length (-1),List.replicate L.length ag,(c0,c1,c2,c3,c4,c5,c6),m0,m1,m2,m3,m4,m5,m6,m7))
  (ae.loop (fun z=>∃(i:Nat) (A:List Int),z=(L,A,List.replicate L.length ag,(i:Int),(c0,c1,c2,c3,c4,c5,c6),m0,m1,m2,m3,m4,m5,m6,m7)/\i<=L.length/\A=List.replicate i (-1)++List.replicate (L.length-i) 0)
   (fun z=>L.length-z.2.2.2.1.toNat) ?_ ⟨0,_,rfl,Nat.zero_le _,by simp⟩) ?_
 ·rintro _ ⟨i,A,rfl,hi,hA⟩;refine aw (fun h=>?_) fun h=>?_
  ·simp only[aI]at h;have hil:i<L.length:=by omega
   have hAl:A.length=L.length:=by rw[hA];simp;omega
   have hw:IntKind.wrap .i64 ((i:Int)+1)=((i+1:Nat):Int):=by rw[wI (by omega) (by omega)];rfl
   refine aA (by simp;omega) (cr (show A[((i:Int)).toNat]? = _ from lK (by omega)) (ae.ret ⟨⟨i+1,_,by rw[hw],by omega,?_⟩,?_⟩))
   ·rw[aY,hA,show L.length-i=(L.length-(i+1))+1 by omega,List.replicate_succ,List.set_append_right _ _ (by simp),List.length_replicate,Nat.sub_self,List.set_cons_zero,List.replicate_succ',b_];rfl
   ·show L.length-(IntKind.wrap .i64 ((i:Int)+1)).toNat<L.length-((i:Int)).toNat;rw[hw];omega
  ·simp only[bN]at h;obtain rfl:i=L.length:=by omega
   refine ae.ret ?_;show _=_;rw[hA,Nat.sub_self,List.replicate_zero,cN]
 rintro _ rfl;refine aA (by simp;omega) (cr (x:=-1) (show(List.replicate L.length (-1:Int))[0]? = _ by rw[List.getElem?_replicate,if_pos hne]) ?_)
 have hj0:Jt c0 L m6 m3 ((List.replicate L.length (-1:Int)).set 0 0):=by
  refine⟨by simp,(K_ _).set (by simpa using hne) (Int.le_refl _) fun _=>.zero,fun k=>?_⟩;rw[nT _ _ _ _ (by simpa using hne),DQ];split<;>omega
 have hd0:Dn c0 L m6 m3 ((List.replicate L.length (-1:Int)).set 0 0) (List.replicate L.length ag):=by
  refine⟨hj0,by simp,?_,fun k hk=>?_⟩
  ·rw[nT _ _ _ _ (by simpa using hne),if_pos rfl]
  ·rw[List.getD_eq_getElem?_getD,List.getElem?_replicate]at hk;split at hk<;>cases hk
 refine ae.bindE (fun A=>∃d,Dn c0 L m6 m3 A d/\∀k,k<L.length->0<=A.getD k (-1)->d.getD k ag=ad)
  (ae.loop (fun z=>∃(A:List Int) (d:List Bool) (more:Bool),z=(L,A,d,more,(c0,c1,c2,c3,c4,c5,c6),m0,m1,m2,m3,m4,m5,m6,m7)/\Dn c0 L m6 m3 A d/\(more=ag->∀k,k<L.length->0<=A.getD k (-1)->d.getD k ag=ad))
   (fun z=>2*fh z.2.2.1+(bif z.2.2.2.1 then 1 else 0)) ?_ ⟨_,_,ad,rfl,hd0,fun h=>(by cases h)⟩) ?_
 ·rintro _ ⟨A,d,more,rfl,hD,hmo⟩;cases more with
  | false=>
    refine aw (fun h=>(by cases h)) fun _=>ae.ret ⟨d,hD,hmo rfl⟩
  |true=>
  refine aw (fun _=>?_) fun h=>(by cases h)
  refine ae.bindE (fun z=>∃(B:List Int) (e:List Bool) (mo:Bool),z=(L,B,e,mo,(c0,c1,c2,c3,c4,c5,c6),m0,m1,m2,m3,m4,m5,m6,m7)/\Dn c0 L m6 m3 B e/\fh e<=fh d/\(mo=ad->fh e<fh d)/\(mo=ag->∀k,k<L.length->0<=B.getD k (-1)->e.getD k ag=ad)) ?_ ?_
  ·refine ae.bindE (fun z=>∃(B:List Int) (e:List Bool) (mo:Bool),z=(L,B,e,mo,(c0,c1,c2,c3,c4,c5,c6),m0,m1,m2,m3,m4,m5,m6,m7)/\Dn c0 L m6 m3 B e/\fh e<=fh d/\(mo=ad->fh e<fh d)/\(mo=ag->∀k,k<L.length->0<=B.getD k (-1)->e.getD k ag=ad))
    (ae.loop (fun z=>∃(B:List Int) (e:List Bool) (mo:Bool) (k:Nat),z=(L,B,e,mo,(k:Int),(c0,c1,c2,c3,c4,c5,c6),m0,m1,m2,m3,m4,m5,m6,m7)/\k<=L.length/\Dn c0 L m6 m3 B e/\fh e<=fh d/\(mo=ad->fh e<fh d)/\(mo=ag->∀j,j<k->0<=B.getD j (-1)->e.getD j ag=ad))
     (fun z=>L.length-z.2.2.2.2.1.toNat) ?_ ⟨A,d,ag,0,rfl,Nat.zero_le _,hD,bI _,fun h=>(by cases h),fun _ j hj=>absurd hj (Nat.not_lt_zero _)⟩) ?_
   ·rintro _ ⟨B,e,mo,k,rfl,hk,hE,hu,hu1,hmo1⟩;refine aw (fun h=>?_) fun h=>?_
    ·simp only[aI]at h;have hkl:k<L.length:=by omega
     have hBl:=hE.1.1;have hel:=hE.2.1;have hw:IntKind.wrap .i64 ((k:Int)+1)=((k+1:Nat):Int):=by rw[wI (by omega) (by omega)];rfl
     have ee:e[k]? = U (e.getD k ag):=by
      rw[bt (by omega),List.getD_eq_getElem?_getD,bt (by omega)];rfl
     have gB:(aa ((0:Int)<=(k:Int))&&aa ((k:Int)<(B.length:Int)))=ad:=by simp;omega
     have gE:(aa ((0:Int)<=(k:Int))&&aa ((k:Int)<(e.length:Int)))=ad:=by simp;omega
     refine ae.bindE (fun z=>∃(B:List Int) (e:List Bool) (mo:Bool),z=(L,B,e,mo,(k:Int),(c0,c1,c2,c3,c4,c5,c6),m0,m1,m2,m3,m4,m5,m6,m7)/\Dn c0 L m6 m3 B e/\fh e<=fh d/\(mo=ad->fh e<fh d)/\(mo=ag->∀j,j<k+1->0<=B.getD j (-1)->e.getD j ag=ad)) ?_ ?_
     ·refine ae.bindE (fun z=>z=(L,B,e,(k:Int),(c0,c1,c2,c3,c4,c5,c6),m0,m1,m2,m3,m4,m5,m6,m7)/\0<=B.getD k (-1)/\e.getD k ag=ag) ?_ ?_
      ·refine aA gB (cr (show B[((k:Int)).toNat]? = U (B.getD k (-1))from lK (by omega)) (aw (fun h1=>?_) fun h1=>aA gE (cr (show e[((k:Int)).toNat]? = _ from ee) (aw (fun h2=>?_) fun h2=>?_))))
       ·simp only[aI]at h1;refine ae.ret ⟨B,e,mo,rfl,hE,hu,hu1,fun hm j hj hj0=>?_⟩;by_cases hjk:j<k
        ·exact hmo1 hm j hjk hj0
        ·obtain rfl:j=k:=by omega
         omega
       ·refine ae.ret ⟨B,e,mo,rfl,hE,hu,hu1,fun hm j hj hj0=>?_⟩;by_cases hjk:j<k
        ·exact hmo1 hm j hjk hj0
        ·obtain rfl:j=k:=by omega
         exact h2
       ·simp only[bN]at h1;exact ae.ret ⟨rfl,by omega,h2⟩
      rintro _ ⟨rfl,hk0,hkd⟩;refine aA gE (cr (show e[((k:Int)).toNat]? = _ from ee) (ae.bind (zci hp hd hkl hE.1 hk0) ?_));rintro _ ⟨b,B',rfl,hb1,hb2⟩;refine aw (fun hc=>?_) fun hc=>?_
      ·have:b=ag:=by simpa using hc
       exact ae.ret (.inl ⟨rfl,hb1 this⟩)
      ·have:b=ad:=by simpa using hc
       obtain⟨g1,g2,g3⟩:=hb2 this;have hun:=zcq e k (by omega) hkd;refine ae.ret ⟨B',e.set k ad,ad,rfl,⟨g2,by simpa using hel,?_,fun j hj=>?_⟩,by omega,fun _=>by omega,fun h=>(by cases h)⟩
       ·rw[g1.2.2 0 (by rw[hE.2.2.1];exact Int.le_refl _)];exact hE.2.2.1
       ·rw[zcp _ _ _ (by omega)]at hj;by_cases hjk:j=k
        ·subst hjk;exact⟨by rw[g1.2.2 j hk0];exact hk0,g3⟩
        ·rw[if_neg hjk]at hj;obtain⟨h1,h2⟩:=hE.2.2.2 j hj;exact⟨by rw[g1.2.2 j h1];exact h1,h2.up rj h1 g1⟩
     rintro _ ⟨B',e',mo',rfl,q1,q2,q3,q4⟩;refine ae.ret ⟨⟨B',e',mo',k+1,by rw[hw],by omega,q1,q2,q3,q4⟩,?_⟩;show L.length-(IntKind.wrap .i64 ((k:Int)+1)).toNat<L.length-((k:Int)).toNat;rw[hw];omega
    ·simp only[bN]at h;obtain rfl:k=L.length:=by omega
     exact ae.ret ⟨B,e,mo,rfl,hE,hu,hu1,hmo1⟩
   rintro _ ⟨B,e,mo,rfl,q⟩;exact ae.ret ⟨B,e,mo,rfl,q⟩
  rintro _ ⟨B,e,mo,rfl,q1,q2,q3,q4⟩;refine ae.ret ⟨⟨B,e,mo,rfl,q1,q4⟩,?_⟩;show 2*fh e+(bif mo then 1 else 0)<2*fh d+1;cases mo with
  |true=>have:=q3 rfl;simp only[cond_true];omega
  |false=>simp only[cond_false];omega
 rintro A ⟨d,⟨⟨hl,hj,_⟩,_,hz0,hcl⟩,hall⟩;refine ae.ret (.inr ⟨⟨hz0,hj,fun k hk=>?_⟩,hl⟩);by_cases hkl:k<L.length
 ·exact(hcl k (hall k hkl hk)).2
 ·rw[List.getD_eq_getElem?_getD,List.getElem?_eq_none (by omega)]at hk;exact absurd hk (by decide)
end
def La (c:Cls)(i:Int)(hb:fK c):ae (tR (c,i)) (KD c i):=by
 have c29:=KU c hb;obtain⟨c0,c1,c2,c3,c4,c5,ms⟩:=c;unfold tR;have hbl:ms.length<=1048576:=hb.2.2.2.1;have hw:IntKind.wrap .i64 ((ms.length:Int)-1)=(ms.length:Int)-1:=wI (by omega) (by omega);refine ae.bindE (fun z=>z=(i,c0,c1,c2,c3,c4,c5,ms)/\put (c0,c1,c2,c3,c4,c5,ms)≠[]/\cP (c0,c1,c2,c3,c4,c5,ms)=0/\(0<=i/\i<=(ms.length:Int)-1)/\¬aO (ms.getD i.toNat aN).1 8) ?_ ?_
 ·refine ae.bind (P:=fun y=>y=_) ⟨_,c29,rfl⟩ ?_;rintro _ rfl;by_cases hput:put (c0,c1,c2,c3,c4,c5,ms)=[]
  ·rw[if_pos hput];exact aw (fun _=>ae.ret (KD.no fun h=>h.1 hput)) fun h=>by simp at h
  rw[if_neg hput];refine aw (fun h=>?_) fun h=>?_
  ·have h:¬cP (c0,c1,c2,c3,c4,c5,ms)=0:=by simpa using h
   exact ae.ret (KD.no fun h'=>h h'.2.1)
  have h0:cP (c0,c1,c2,c3,c4,c5,ms)=0:=by simpa using h
  rw[hw];refine ae.bind (P:=fun y=>y=aa (0<=i/\i<=(ms.length:Int)-1)) ⟨_,jr _ _ _,rfl⟩ ?_;rintro _ rfl;refine aw (fun h=>?_) fun h=>?_
  ·have h:¬(0<=i/\i<=(ms.length:Int)-1):=of_decide_eq_false (by simpa only[Bool.not_eq_true']using h);exact ae.ret (KD.no fun h'=>h h'.2.2.1)
  have hi:0<=i/\i<=(ms.length:Int)-1:=of_decide_eq_true (by simpa only[Bool.not_eq_false']using h);obtain⟨em,hm⟩:=rl hi;have hf:jm (ms.getD i.toNat aN):=(jQ hput).2.2.2.2.2.2.2 _ hm;refine aA (by simpa using hi.1) (cr em (ae.bind (P:=fun y=>y=aa (aO (ms.getD i.toNat aN).1 8)) ⟨_,Dj _ hf.1.1 hf.1.2,rfl⟩ ?_));rintro _ rfl;refine aw (fun h=>?_) fun h=>?_
  ·exact ae.ret (KD.no fun h'=>h'.2.2.2 (of_decide_eq_true h))
  ·exact ae.ret ⟨rfl,hput,h0,hi,of_decide_eq_false h⟩
 rintro _ ⟨rfl,hput,h0,hi,hh⟩;refine ae.mono (Q:=jv c0 (bx (ms.getD i.toNat aN).2.2.2.2.2.1).1 (ms.getD i.toNat aN).2.2.2.2.2.2.1 (ms.getD i.toNat aN).2.2.2.1) ?_ fun y g=>LH ⟨hput,h0,hi,hh⟩ g
 obtain⟨em,hm⟩:=rl hi;have hf:jm (ms.getD i.toNat aN):=(jQ hput).2.2.2.2.2.2.2 _ hm;have hdd:=DP hput h0 hm hh;have hop:=((pA h0).2.2.2.2 _ hm hh).1;have hpool:kV c0:=C6.1 (pA h0).1;have hol:=pq (ms.getD i.toNat aN).2.2.2.2.2.1;refine aA (by simpa using hi.1) (cr em ?_);have h120:=hf.2.2.2.2.2.1;generalize ms.getD i.toNat aN=m at *;obtain⟨m0,m1,m2,m3,m4,m5,m6,m7⟩:=m;simp only at hdd hop h120 hol ⊢;refine ae.bind (P:=fun y=>y=bx m5) ⟨_,yR m5 h120,rfl⟩ ?_;rintro _ rfl;generalize bx m5=v at hdd hop hol;obtain⟨L,ok⟩:=v;simp only at hdd hop hol ⊢
 refine ae.bindE (fun z=>z=(c0,c1,c2,c3,c4,c5,ms,m0,m1,m2,m3,m4,m5,m6,m7,L,List.replicate L.length (-1),ag))
  (ae.loop (fun z=>∃k:Nat,z=((L.length:Int),(k:Int),c0,c1,c2,c3,c4,c5,ms,m0,m1,m2,m3,m4,m5,m6,m7,L,List.replicate k (-1),ag)/\k<=L.length)
   (fun z=>L.length-z.2.1.toNat) ?_ ⟨0,rfl,Nat.zero_le _⟩) ?_
 ·rintro _ ⟨k,rfl,hk⟩;refine aw (fun h=>?_) fun h=>?_
  ·simp only[aI]at h;have hw:IntKind.wrap .i64 ((k:Int)+1)=((k+1:Nat):Int):=by rw[wI (by omega) (by omega)];rfl
   refine aA (by simp;omega) (ae.ret ⟨⟨k+1,by rw[hw,List.replicate_succ'],by omega⟩,?_⟩);show L.length-(IntKind.wrap .i64 ((k:Int)+1)).toNat<L.length-((k:Int)).toNat;rw[hw];omega
  ·simp only[bN]at h;obtain rfl:k=L.length:=by omega
   exact ae.ret rfl
 rintro _ rfl;refine ae.bind (zco hb.1 hpool hdd.1 hdd.2 (show L.length<200 by omega)) ?_;rintro _ ⟨o,b,rfl,h⟩;cases b with
 |true=>exact ae.ret h
 |false=>exact ae.ret h
def q43 (c:Cls)(i:Int)(hb:fK c):ae (tT (c,i)) (KD c i):=by
 have c30:=zbI c hb;obtain⟨c0,c1,c2,c3,c4,c5,ms⟩:=c;unfold tT;have hbl:ms.length<=1048576:=hb.2.2.2.1;have hw:IntKind.wrap .i64 ((ms.length:Int)-1)=(ms.length:Int)-1:=wI (by omega) (by omega);refine ae.bindE (fun z=>z=(i,c0,c1,c2,c3,c4,c5,ms)/\put (c0,c1,c2,c3,c4,c5,ms)≠[]/\cP (c0,c1,c2,c3,c4,c5,ms)=0/\(0<=i/\i<=(ms.length:Int)-1)/\¬aO (ms.getD i.toNat aN).1 8) ?_ ?_
 ·refine ae.bind (P:=fun y=>y=_) ⟨_,c30,rfl⟩ ?_;rintro _ rfl;by_cases hput:put (c0,c1,c2,c3,c4,c5,ms)=[]
  ·rw[if_pos hput];exact aw (fun _=>ae.ret (KD.no fun h=>h.1 hput)) fun h=>by simp at h
  rw[if_neg hput];refine aw (fun h=>?_) fun h=>?_
  ·have h:¬cP (c0,c1,c2,c3,c4,c5,ms)=0:=by simpa using h
   exact ae.ret (KD.no fun h'=>h h'.2.1)
  have h0:cP (c0,c1,c2,c3,c4,c5,ms)=0:=by simpa using h
  rw[hw];refine ae.bind (P:=fun y=>y=aa (0<=i/\i<=(ms.length:Int)-1)) ⟨_,i4 _ _ _,rfl⟩ ?_;rintro _ rfl;refine aw (fun h=>?_) fun h=>?_
  ·have h:¬(0<=i/\i<=(ms.length:Int)-1):=of_decide_eq_false (by simpa only[Bool.not_eq_true']using h);exact ae.ret (KD.no fun h'=>h h'.2.2.1)
  have hi:0<=i/\i<=(ms.length:Int)-1:=of_decide_eq_true (by simpa only[Bool.not_eq_false']using h);obtain⟨em,hm⟩:=rl hi;have hf:jm (ms.getD i.toNat aN):=(jQ hput).2.2.2.2.2.2.2 _ hm;refine aA (by simpa using hi.1) (cr em (ae.bind (P:=fun y=>y=aa (aO (ms.getD i.toNat aN).1 8)) ⟨_,kn hf.1.1 hf.1.2 (by decide),rfl⟩ ?_));rintro _ rfl;refine aw (fun h=>?_) fun h=>?_
  ·exact ae.ret (KD.no fun h'=>h'.2.2.2 (of_decide_eq_true h))
  ·exact ae.ret ⟨rfl,hput,h0,hi,of_decide_eq_false h⟩
 rintro _ ⟨rfl,hput,h0,hi,hh⟩;refine ae.mono (Q:=jv c0 (bx (ms.getD i.toNat aN).2.2.2.2.2.1).1 (ms.getD i.toNat aN).2.2.2.2.2.2.1 (ms.getD i.toNat aN).2.2.2.1) ?_ fun y g=>LH ⟨hput,h0,hi,hh⟩ g
 obtain⟨em,hm⟩:=rl hi;have hf:jm (ms.getD i.toNat aN):=(jQ hput).2.2.2.2.2.2.2 _ hm;have hdd:=DP hput h0 hm hh;have hop:=((pA h0).2.2.2.2 _ hm hh).1;refine aA (by simpa using hi.1) (cr em ?_);have h120:=hf.2.2.2.2.2.1;generalize ms.getD i.toNat aN=m at *;obtain⟨m0,m1,m2,m3,m4,m5,m6,m7⟩:=m;simp only at hdd hop h120 ⊢;have hv:bx m5=((bx m5).1,ad):=by rw[<-hop]
 refine ae.bind (zcr hb.1 hdd.1 hdd.2 hv (by omega)) fun y h=>ae.ret h
end Go.Proofs.YtdpapeledldifaaGreat
end
namespace Go.Proofs.YtdpapeledldifaaGreat
section
open Go Go.AM Go.TM
def Rd (c:Nat)(r:List UInt8×Int):Prop:=r.1.length<=2000/\0<=r.2/\r.2<=c
def Rd.mono {c d:Nat}{r:List UInt8×Int}(h:Rd c r)(hc:c<=d):Rd d r:=⟨h.1,h.2.1,by have:=h.2.2;omega⟩
def zRH {a b:Int}(ha:0<=a)(ha':a<9223372036854775808)(hb:0<=b)(hb':b<9223372036854775808):0<=pC .i64 a b:=by
 unfold pC
 have e:∀{x:Int},0<=x->x<9223372036854775808->(BitVec.ofInt 64 x).toNat=x.toNat:=by
  intro x h0 h1;rw[BitVec.toNat_ofInt];show(x % ((2^64:Nat):Int)).toNat=_;rw[Int.emod_eq_of_lt h0 (by omega)]
 show 0<=IntKind.wrap .i64 ((BitVec.ofInt 64 a ^^^ BitVec.ofInt 64 b).toNat:Int);rw[BitVec.toNat_xor,e ha ha',e hb hb'];have h:=Nat.xor_lt_two_pow (n:=63) (show a.toNat<2^63 by omega) (show b.toNat<2^63 by omega);rw[wrapI (by omega) (by omega)];omega
def zb {a n:Int}(ha:0<=a)(hn:1<=n):0<=Int.tmod a n/\Int.tmod a n<n:=by
 rw[Int.tmod_eq_emod_of_nonneg ha];exact⟨Int.emod_nonneg _ (by omega),Int.emod_lt_of_pos _ (by omega)⟩
def Lb {a n:Int}(ha:0<=a)(hn:1<=n):0<=Int.tdiv a n/\Int.tdiv a n<=a:=by
 rw[Int.tdiv_eq_ediv_of_nonneg ha];exact⟨Int.ediv_nonneg ha (by omega),Int.ediv_le_self _ ha⟩
def DR (x:UInt8):(0:Int)<=(x.toNat:Int)/\(x.toNat:Int)<=255:=by
 have:=x.toNat_lt;omega
def cR {n:Int}{r:List UInt8×Int}{c:Nat}(h:Rd c r)(hc:c<=1000000):ae (cw (n,r)) fun y=>0<=y.1/\(1<=n->y.1<n)/\(n<1->y.1=0)/\Rd (c+1) y.2:=by
 obtain⟨b,p⟩:=r;obtain⟨hb,h0,h1⟩:=h;simp only at hb h0 h1;have hR:Rd (c+1) (b,p+1):=⟨hb,by show(0:Int)<=p+1;omega,by show p+1<=((c+1:Nat):Int);omega⟩
 unfold cw;simp only[show IntKind.wrap .i64 (p+1)=p+1 from wrapI (by omega) (by omega)]
 refine ae.bindE (fun y=>y=(n,b,p+1)/\1<=n/\b≠[]) ?_ ?_
 ·refine aw (fun hn=>?_) (fun hn=>?_)
  ·simp only[aI]at hn;exact ae.ret ⟨by simp,fun h=>absurd h (by omega),fun _=>rfl,hR⟩
  ·simp only[bN]at hn;refine aw (fun hb=>?_) (fun hb=>?_)
   ·exact ae.ret ⟨by simp,fun h=>by show(0:Int)<n;omega,fun _=>rfl,hR⟩
   ·simp only[bN]at hb;exact ae.ret ⟨rfl,by omega,fun e=>hb (by rw[e];rfl)⟩
 ·rintro _ ⟨rfl,hn,hne⟩;have hl:1<=b.length:=by cases b;exact absurd rfl hne;simp
  simp only[show IntKind.wrap .i64 (p+1-1)=p by rw[show p+1-1=p by omega];exact wrapI (by omega) (by omega)]
  have hnz:(!aa (n=0))=ad:=by simp;omega
  have hlz:(!aa (((b.length:Nat):Int)=0))=ad:=by simp;omega
  refine aw (fun hk=>?_) (fun hk=>?_)
  ·simp only[aI]at hk;refine aA (by simpa using h0) (ae.at (by omega) fun x hx=>aA hnz ?_);have hx:=DR x;have hw:IntKind.wrap .i64 ((x.toNat:Nat):Int)=x.toNat:=wrapI (by omega) (by omega);rw[hw];have:=zb (n:=n) hx.1 hn;exact ae.ret ⟨this.1,fun _=>this.2,fun h=>absurd h (by omega),hR⟩
  ·have hm1:=zb (a:=p) (n:=(b.length:Int)) h0 (by omega)
   have w7:IntKind.wrap .i64 (IntKind.wrap .i64 (p*7)+3)=p*7+3:=by
    rw[wrapI (x:=p*7) (by omega) (by omega),wrapI (by omega) (by omega)]
   simp only[w7]
   have hm2:=zb (a:=p*7+3) (n:=(b.length:Int)) (by omega) (by omega);refine aA hlz (aA (by simpa using hm1.1) (ae.at (by omega) fun x hx=>aA hlz (aA (by simpa using hm2.1) (ae.at (by omega) fun x1 hx1=>aA hlz (aA hnz ?_)))));have hx:=DR x;have hx1:=DR x1;have hd:=Lb (a:=p) (n:=(b.length:Int)) h0 (by omega);generalize (x.toNat:Int)=u at hx ⊢;generalize (x1.toNat:Int)=v at hx1 ⊢;generalize Int.tdiv p (b.length:Int)=d at hd ⊢
   have e:IntKind.wrap .i64 (IntKind.wrap .i64 (IntKind.wrap .i64 (IntKind.wrap .i64 (IntKind.wrap .i64 u*131)+IntKind.wrap .i64 (IntKind.wrap .i64 v*1117))+IntKind.wrap .i64 (p*29))+IntKind.wrap .i64 (IntKind.wrap .i64 d*53))=u*131+v*1117+p*29+d*53:=by
    rw[wrapI (x:=u) (by omega) (by omega),wrapI (x:=v) (by omega) (by omega),wrapI (x:=d) (by omega) (by omega),wrapI (x:=u*131) (by omega) (by omega),wrapI (x:=v*1117) (by omega) (by omega),wrapI (x:=p*29) (by omega) (by omega),wrapI (x:=d*53) (by omega) (by omega),wrapI (x:=u*131+v*1117) (by omega) (by omega),wrapI (x:=u*131+v*1117+p*29) (by omega) (by omega),wrapI (by omega) (by omega)]
   simp only[e]
   generalize ht:u*131+v*1117+p*29+d*53=t;have h64:=Lb (a:=t) (n:=64) (by omega) (by omega);rw[wrapI (x:=Int.tdiv t 64) (by omega) (by omega)];have hxo:=zRH (a:=t) (b:=Int.tdiv t 64) (by omega) (by omega) (by omega) (by omega);have:=zb (n:=n) hxo hn;exact ae.ret ⟨this.1,fun _=>this.2,fun h=>absurd h (by omega),hR⟩
def Lc {α:Type}{F:List α×List UInt8×Int->Option (α×List UInt8×Int)}(hF:∀ l r,F (l,r)=ai (cw (((l.length:Nat):Int),r)) fun y=>af (aa (0<=y.1)) (aq l y.1.toNat fun x=>U (x,y.2)))
  {l:List α} {r:List UInt8×Int} {c:Nat} (h:Rd c r) (hc:c<=1000000) (hl:l≠[]):ae (F (l,r)) fun y=>y.1∈l/\Rd (c+1) y.2:=by
 rw[hF];have hl:1<=l.length:=by cases l;exact absurd rfl hl;simp
 refine ae.bind (cR h hc) fun y hy=>?_
 have:=hy.2.1 (by omega);refine aA (by simpa using hy.1) (ae.at (by omega) fun x hx=>ae.ret ⟨cK hx,hy.2.2.2⟩)
def pB {l:List Int}{r:List UInt8×Int}{c:Nat}(h:Rd c r)(hc:c<=1000000)(hl:l≠[]):ae (ji (l,r)) fun y=>y.1∈l/\Rd (c+1) y.2 :=
 Lc (fun l r=>rfl) h hc hl
def zcs {l:List (List UInt8)}{r:List UInt8×Int}{c:Nat}(h:Rd c r)(hc:c<=1000000)(hl:l≠[]):ae (dL (l,r)) fun y=>y.1∈l/\Rd (c+1) y.2 :=
 Lc (fun l r=>rfl) h hc hl
def t49 (code:List UInt8):ae (wC code) (Rd 0):=by
 unfold wC;refine aw (fun h=>?_) (fun h=>?_)
 ·simp only[aI]at h;refine aA (by simp;omega) (ae.ret ⟨?_,by simp,by simp⟩);simp only[List.drop_zero,cA];omega
 ·simp only[bN]at h;exact ae.ret ⟨by simp only;omega,by simp,by simp⟩
def ug (n:Int) : -9223372036854775808<=IntKind.wrap .i64 n/\IntKind.wrap .i64 n<=9223372036854775807:=by
 simp only[IntKind.wrap,IntKind.bits,IntKind.signed]
 simp;split<;>omega
def zct (n:Int):0<=IntKind.wrap .u8 n/\IntKind.wrap .u8 n<=255:=by
 have h:IntKind.wrap .u8 n=n % 256:=by simp[IntKind.wrap,IntKind.bits,IntKind.signed]
 rw[h];omega
def nV (n:Int):(aa ((0:Int)<=IntKind.wrap .u8 n)&&aa (IntKind.wrap .u8 n<=(255:Int)))=ad:=by
 have:=zct n;simp[this.1,this.2]
def DS:∀(k:Nat) (n:Int),n<=9223372036854775807->0<=n->n<10^(k+1)->k<=30->ae (ml (k+1) n) fun s=>s.length<=k+1
 | 0,n,_,h0,h1,_=>by
   show ae (nE (ml 0) n) _;unfold nE;refine aw (fun h=>?_) (fun _=>aw (fun h=>?_) (fun _=>aw (fun _=>aA (nV _) (ae.ret (by simp))) (fun h=>?_)))
   ·simp only[aI]at h;omega
   ·simp only[aI]at h;omega
   ·simp only[bN]at h;omega
 | k+1,n,hm,h0,h1,hk=>by
   show ae (nE (ml (k+1)) n) _;unfold nE;refine aw (fun h=>?_) (fun _=>aw (fun h=>?_) (fun _=>aw (fun _=>aA (nV _) (ae.ret (by simp))) (fun h=>?_)))
   ·simp only[aI]at h;omega
   ·simp only[aI]at h;omega
   ·simp only[bN]at h;have hp:(10:Int)^(k+1+1)=10^(k+1)*10:=Int.pow_succ _ _;have hd:Int.tdiv n 10=n / 10:=Int.tdiv_eq_ediv_of_nonneg h0;have hlt:n / 10<10^(k+1):=by omega
    have hw:IntKind.wrap .i64 (Int.tdiv n 10)=n / 10:=by rw[hd];exact wrapI (by omega) (by omega)
    obtain⟨y,e,hy⟩:=DS k (n / 10) (by omega) (by omega) hlt (by omega);rw[hw,e];simp only[av,ay,aC,bQ,nV]
    have hl:aa (y.length+1<=9223372036854775807)=ad:=by simp only[aI];omega
    simp only[hl,aC,mA]
    exact ae.ret (by simp only[aR,bD,cW];omega)
def kY {n:Int}(h1 : -9223372036854775808<=n)(h2:n<=9223372036854775807):ae (jJ n) fun s=>s.length<=25:=by
 have p23:(10:Int)^23=100000000000000000000000:=by decide
 have p24:(10:Int)^24=1000000000000000000000000:=by decide
 by_cases h0:0<=n
 ·exact(DS 23 n h2 h0 (by omega) (by omega)).mono fun s h=>by omega
 ·show ae (nE (ml 23) n) _;unfold nE;refine aw (fun h=>ae.ret (by simp)) (fun h=>aw (fun _=>?_) (fun h=>?_))
  ·simp only[bN]at h;rw[wrapI (x:=0-n) (by omega) (by omega)];refine ae.bind (DS 22 (0-n) (by omega) (by omega) (by omega) (by omega)) fun y hy=>aA (by simp only[aI];omega) (ae.ret ?_)
   simp only[aR,bD,cW];omega
  ·simp only[bN]at h;omega
def Ld {list:List (List UInt8)}{s:List UInt8}(hl:list.length<=1000000000000):ae (qz (list,s)) fun _=>True:=by
 unfold qz;refine ae.bindE (fun _=>True) (ae.loop (fun x=>x.1=list/\0<=x.2.2/\x.2.2<=(list.length:Int)) (fun x=>list.length-x.2.2.toNat) ?_ ⟨rfl,by simp,by simp⟩) (fun _ _=>ae.ret trivial);rintro⟨l,s,i⟩ ⟨rfl,h0,h1⟩;simp only at hl;refine aw (fun h=>?_) (fun h=>ae.ret trivial);simp only[aI]at h;simp only at h0 h1;refine aA (by simpa using h0) (ae.at (by omega) fun x _=>aw (fun _=>ae.ret trivial) fun _=>ae.ret ?_);simp only[Sum.elim_inl,true_and]
 rw[wrapI (by omega) (by omega)];omega
def zc (a b c:Int):ae (eN (a,b,c)) fun _=>True:=by
 unfold eN;exact aw (fun _=>ae.ret trivial) fun _=>ae.ret trivial
def zd (n:Int):ae (lC n) fun _=>True:=by
 unfold lC;refine ae.bindE (fun _=>True) ?_ fun y _=>?_
 ·exact aw (fun _=>ae.ret trivial) fun _=>aw (fun _=>ae.ret trivial) fun _=>aw (fun _=>ae.ret trivial) fun _=>aw (fun _=>ae.ret trivial) fun _=>aw (fun _=>ae.ret trivial) fun _=>ae.ret trivial
 ·refine ae.bind (zc _ _ _) fun y _=>aw (fun _=>ae.ret trivial) fun _=>ae.bind (zc _ _ _) fun y _=>aw (fun _=>ae.ret trivial) fun _=>ae.bind (zc _ _ _) fun y _=>aw (fun _=>ae.ret trivial) fun _=>ae.ret trivial
def uh {s:List UInt8}{b most:Int}(hs:s.length<=1000000000000)(hm:0<=most) :
  ae (nF (s,b,most)) fun out=>1<=out.length/\out.length<=s.length+1/\(out.length:Int)<=most+1/\∀x∈out,x.length<=s.length:=by
 unfold nF
 refine ae.bindE (fun y=>y.1=s/\y.2.1.length<=s.length/\(y.2.1.length:Int)<=most/\(∀x∈y.2.1,x.length<=s.length)/\0<=y.2.2/\y.2.2<=(s.length:Int))
  (ae.loop (fun x=>x.1=s/\x.2.2.1=most/\(∀z∈x.2.2.2.1,z.length<=s.length)/\(x.2.2.2.1.length:Int)<=most/\(x.2.2.2.1.length:Int)<=x.2.2.2.2.2/\0<=x.2.2.2.2.1/\x.2.2.2.2.1<=x.2.2.2.2.2/\x.2.2.2.2.2<=(s.length:Int)) (fun x=>s.length-x.2.2.2.2.2.toNat) ?_ ⟨rfl,rfl,by simp,by simpa using hm,by simp,by simp,by simp,by simp⟩) ?_
 ·rintro⟨s1,b1,m1,out,fr,i⟩ ⟨rfl,rfl,h1,h2,h3,h4,h5,h6⟩;simp only at h1 h2 h3 h4 h5 h6 hs;refine ae.bindE (fun y=>y=(s1,b1,m1,out,fr,i)/\i<(s1.length:Int)/\(out.length:Int)<m1) ?_ ?_
  ·refine aw (fun h=>aw (fun g=>?_) fun _=>?_) fun _=>?_
   ·simp only[aI]at h g;exact ae.ret ⟨rfl,h,g⟩
   ·exact ae.ret ⟨rfl,by simp only;omega,h2,h1,h4,by simp only;omega⟩
   ·exact ae.ret ⟨rfl,by simp only;omega,h2,h1,h4,by simp only;omega⟩
  ·rintro _ ⟨rfl,g1,g2⟩;refine ae.bindE (fun y=>y.1=s1/\y.2.2.1=m1/\(∀z∈y.2.2.2.1,z.length<=s1.length)/\(y.2.2.2.1.length:Int)<=m1/\(y.2.2.2.1.length:Int)<=i+1/\0<=y.2.2.2.2.1/\y.2.2.2.2.1<=i+1/\y.2.2.2.2.2=i) ?_ ?_
   ·refine aA (by simp only[aI];omega) (ae.at (by omega) fun x _=>aw (fun _=>?_) fun _=>?_)
    ·refine aA (by simp only[aG,aI];omega) (aA (by simp only[aG,aI];omega) (ae.ret ⟨rfl,rfl,?_,?_,?_,?_,?_,rfl⟩))
     ·intro z hz;simp only[List.mem_append,List.mem_singleton]at hz;rcases hz with hz|rfl
      ·exact h1 z hz
      ·simp only[dF,cA];omega
     ·simp only[aR,bD,cW];omega
     ·simp only[aR,bD,cW];omega
     ·simp only;rw[wrapI (by omega) (by omega)];omega
     ·simp only;rw[wrapI (by omega) (by omega)];omega
    ·exact ae.ret ⟨rfl,rfl,h1,h2,by simp only;omega,h4,by simp only;omega,rfl⟩
   ·rintro⟨s2,b2,m2,out2,fr2,i2⟩ ⟨rfl,rfl,k1,k2,k3,k4,k5,rfl⟩;simp only at k1 k2 k3 k4 k5 hs g1 g2 h4 h5;have hw:IntKind.wrap .i64 (i2+1)=i2+1:=wrapI (by omega) (by omega);refine ae.ret ⟨⟨rfl,rfl,k1,k2,?_,k4,?_,?_⟩,?_⟩<;>(simp only;rw[hw];omega)
 ·rintro⟨s1,out,fr⟩ ⟨rfl,h1,h2,h3,h4,h5⟩;simp only at h1 h2 h3 h4 h5 hs;refine aA (by simp only[aG,aI];omega) (aA (by simp only[aG,aI];omega) (ae.ret ⟨?_,?_,?_,?_⟩))
  ·simp
  ·simp only[aR,bD,cW];omega
  ·simp only[aR,bD,cW];omega
  ·intro z hz;simp only[List.mem_append,List.mem_singleton]at hz;rcases hz with hz|rfl
   ·exact h3 z hz
   ·simp only[dF,cA];omega
end
section
open Go Go.AM Go.TM
set_option maxRecDepth 10000
def Gt (K:Nat)(g:List UInt8×List UInt8×List UInt8×Int×List UInt8):Prop :=
 g.1.length<=K/\g.2.1.length<=K/\g.2.2.1.length<=K/\((-9223372036854775808:Int)<=g.2.2.2.1/\g.2.2.2.1<=(9223372036854775807:Int))/\g.2.2.2.2.length<=3
def Gt.mono {K L:Nat}{g:List UInt8×List UInt8×List UInt8×Int×List UInt8}(h:Gt K g)(hc:K<=L):Gt L g :=
 ⟨Nat.le_trans h.1 hc,Nat.le_trans h.2.1 hc,Nat.le_trans h.2.2.1 hc,h.2.2.2.1,h.2.2.2.2⟩
def eE {m:Nat}{l:List (List UInt8)}{r:List UInt8×Int}{c:Nat}(h:Rd c r)(hc:c<=1000000)(hl:l≠[])(hm:∀ x∈l,x.length<=m):ae (dL (l,r)) fun y=>y.1.length<=m/\Rd (c+1) y.2 :=
 (zcs h hc hl).mono fun y hy=>⟨hm _ hy.1,hy.2⟩
def ui {m:Int}{l:List Int}{r:List UInt8×Int}{c:Nat}(h:Rd c r)(hc:c<=1000000)(hl:l≠[])(hm:∀ x∈l,-m<=x/\x<=m):ae (ji (l,r)) fun y=>-m<=y.1/\y.1<=m/\Rd (c+1) y.2 :=
 (pB h hc hl).mono fun y hy=>⟨(hm _ hy.1).1,(hm _ hy.1).2,hy.2⟩
def bS {s:List UInt8}{g:List UInt8×List UInt8×List UInt8×Int×List UInt8}{r:List UInt8×Int}{K:Nat}{c:Nat}(hs:au s<=100)(hg:Gt K g)(hr:Rd c r)(hK:K<=950000)(hc:c<=950000):ae (bM (s,g,r)) fun y=>Gt (K+110) y.1/\Rd (c+0) y.2:=by
 obtain⟨o1,o2,o3,o4,o5⟩:=g;have ko1:au o1<=K+0:=hg.1;have ko2:au o2<=K+0:=hg.2.1;have ko3:au o3<=K+0:=hg.2.2.1;have ko5:au o5<=3:=hg.2.2.2.2;obtain⟨o0,o11⟩:=r;unfold bM;refine aA (by simp<;>omega) ?_;refine aA (by simp<;>omega) ?_;refine aA (by simp<;>omega) ?_;refine ae.bind (P:=fun y=>y.length<=100) (ae.ret (by decide)) ?_;intro y ky;refine ae.seq (by repeat first|exact ae.ret trivial|refine ae.seq ?_ ?_|refine aA (by first|decide|simp<;>omega) ?_) ?_;refine ae.bind (uh (by omega) (by omega)) ?_;intro y1 ky1;refine ae.seq (by repeat first|exact ae.ret trivial|refine ae.seq ?_ ?_|refine aA (by first|decide|simp<;>omega) ?_) ?_;refine ae.at (by omega) fun x _=>?_
 refine ae.bind (Ld (by omega)) ?_;intro y2 _;refine ae.seq (by repeat first|exact ae.ret trivial|refine ae.seq ?_ ?_|refine aA (by first|decide|simp<;>omega) ?_) ?_;refine ae.bind (zd _) ?_;intro y3 _;refine ae.seq (by repeat first|exact ae.ret trivial|refine ae.seq ?_ ?_|refine aA (by first|decide|simp<;>omega) ?_) ?_;exact ae.ret ⟨⟨(by show au _<=_;first|omega|simp<;>omega),(by show au _<=_;first|omega|simp<;>omega),(by show au _<=_;first|omega|simp<;>omega),(ug _),(by show au _<=_;first|omega|simp<;>omega)⟩,hr.mono (by omega)⟩
def ie {g:List UInt8×List UInt8×List UInt8×Int×List UInt8}{r:List UInt8×Int}{K:Nat}{c:Nat}(hg:Gt K g)(hr:Rd c r)(hK:K<=950000)(hc:c<=950000):ae (fZ (g,r)) fun y=>au y.1<=25/\Gt (K+0) y.2.1/\Rd (c+1) y.2.2:=by
 obtain⟨o1,o2,o3,o4,o5⟩:=g;obtain⟨o0,o11⟩:=r;unfold fZ;refine ae.bind (cR hr (by omega)) ?_;rintro⟨y,y1,y2⟩ ⟨(a2:(0:Int)<=y),(b3:(1:Int)<=(3:Int)->y<(3:Int)),-,hr1⟩;refine ae.bind (kY (by omega) (by omega)) ?_;intro y3 (ky3:au y3<=25);exact ae.ret ⟨(by first|omega|simp<;>omega),hg.mono (by omega),hr1.mono (by omega)⟩
def DT {g:List UInt8×List UInt8×List UInt8×Int×List UInt8}{r:List UInt8×Int}{K:Nat}{c:Nat}(hg:Gt K g)(hr:Rd c r)(hK:K<=950000)(hc:c<=950000):ae (qA (g,r)) fun y=>au y.1<=20/\Gt (K+0) y.2.1/\Rd (c+0) y.2.2:=by
 obtain⟨o1,o2,o3,o4,o5⟩:=g;have ko1:au o1<=K+0:=hg.1;have ko2:au o2<=K+0:=hg.2.1;have ko3:au o3<=K+0:=hg.2.2.1;have ko5:au o5<=3:=hg.2.2.2.2;obtain⟨o0,o11⟩:=r;unfold qA;refine aA (by simp<;>omega) ?_;refine aA (by simp<;>omega) ?_;refine aA (by simp<;>omega) ?_;refine aA (by simp<;>omega) ?_;exact ae.ret ⟨(by first|omega|simp<;>omega),hg.mono (by omega),hr.mono (by omega)⟩
def DU {locals:List UInt8}{stack:List UInt8}{g:List UInt8×List UInt8×List UInt8×Int×List UInt8}{r:List UInt8×Int}{K:Nat}{c:Nat}(hlocals:au locals<=20)(hstack:au stack<=20)(hg:Gt K g)(hr:Rd c r)(hK:K<=950000)(hc:c<=950000):ae (qB (locals,stack,g,r)) fun y=>Gt (K+110) y.1/\Rd (c+0) y.2:=by
 obtain⟨o1,o2,o3,o4,o5⟩:=g;have ko1:au o1<=K+0:=hg.1;have ko2:au o2<=K+0:=hg.2.1;have ko3:au o3<=K+0:=hg.2.2.1;have ko5:au o5<=3:=hg.2.2.2.2;obtain⟨o0,o11⟩:=r;unfold qB;refine aA (by simp<;>omega) ?_;refine ae.bind (kY hg.2.2.2.1.1 hg.2.2.2.1.2) ?_;intro y (ky:au y<=25);refine ae.seq (by repeat first|exact ae.ret trivial|refine ae.seq ?_ ?_|refine aA (by first|decide|simp<;>omega) ?_) ?_;refine aA (by simp<;>omega) ?_;refine aA (by simp<;>omega) ?_;refine aA (by simp<;>omega) ?_;refine aA (by simp<;>omega) ?_;refine aA (by simp<;>omega) ?_;refine aA (by simp<;>omega) ?_;exact ae.ret ⟨⟨(by show au _<=_;first|omega|simp<;>omega),(by show au _<=_;first|omega|simp<;>omega),(by show au _<=_;first|omega|simp<;>omega),⟨hg.2.2.2.1.1,hg.2.2.2.1.2⟩,(by show au _<=_;first|omega|simp<;>omega)⟩,hr.mono (by omega)⟩
def ze {g:List UInt8×List UInt8×List UInt8×Int×List UInt8}{r:List UInt8×Int}{K:Nat}{c:Nat}(hg:Gt K g)(hr:Rd c r)(hK:K<=900000)(hc:c<=900000):ae (oV (g,r)) fun y=>Gt (K+500) y.1/\Rd (c+10) y.2:=by
 obtain⟨o1,o2,o3,o4,o5⟩:=g;obtain⟨o0,o11⟩:=r;unfold oV;refine ae.bind (cR hr (by omega)) ?_;rintro⟨y,y1,y2⟩ ⟨(a2:(0:Int)<=y),(b3:(1:Int)<=(6:Int)->y<(6:Int)),-,hr1⟩;refine ae.bindE (fun y=>Gt (K+330) y.1/\Rd (c+4) y.2) ?_ ?_
 ·refine aw (fun c4=>?_) (fun c4=>?_)
  ·refine ae.bind (ie hg hr1 (by omega) (by omega)) ?_;rintro⟨y3,⟨y4,y5,y6,y7,y8⟩,x,x1⟩ ⟨(ky3:au y3<=25),hg5,hr6⟩;refine aA (by simp<;>omega) ?_;refine ae.bind (bS (by first|omega|simp<;>omega) hg5 hr6 (by omega) (by omega)) ?_;rintro⟨⟨y9,y10,y11,y12,y13⟩,y14,x2⟩ ⟨hg7,hr8⟩;refine ae.bind (bS (by first|omega|simp<;>omega) hg7 hr8 (by omega) (by omega)) ?_;rintro⟨⟨y15,y16,y17,y18,y19⟩,y20,x3⟩ ⟨hg9,hr10⟩;exact ae.ret ⟨hg9.mono (by omega),hr10.mono (by omega)⟩
  ·refine aw (fun tX=>?_) (fun tX=>?_)
   ·refine ae.bind (ie hg hr1 (by omega) (by omega)) ?_;rintro⟨y3,⟨y4,y5,y6,y7,y8⟩,x,x1⟩ ⟨(ky3:au y3<=25),hg12,hr13⟩;refine aA (by simp<;>omega) ?_;refine ae.bind (bS (by first|omega|simp<;>omega) hg12 hr13 (by omega) (by omega)) ?_;rintro⟨⟨y9,y10,y11,y12,y13⟩,y14,x2⟩ ⟨hg14,hr15⟩;refine ae.bind (bS (by first|omega|simp<;>omega) hg14 hr15 (by omega) (by omega)) ?_;rintro⟨⟨y15,y16,y17,y18,y19⟩,y20,x3⟩ ⟨hg16,hr17⟩;exact ae.ret ⟨hg16.mono (by omega),hr17.mono (by omega)⟩
   ·refine aw (fun c18=>?_) (fun c18=>?_)
    ·refine ae.bind (bS (by first|omega|simp<;>omega) hg hr1 (by omega) (by omega)) ?_;rintro⟨⟨y3,y4,y5,y6,y7⟩,y8,x⟩ ⟨hg19,hr20⟩;exact ae.ret ⟨hg19.mono (by omega),hr20.mono (by omega)⟩
    ·refine aw (fun c21=>?_) (fun c21=>?_)
     ·refine ae.bind (ui (m:=100000) hr1 (by omega) (by simp) (by decide)) ?_;rintro⟨y3,y4,y5⟩ ⟨(a23:(-100000:Int)<=y3),(b24:y3<=(100000:Int)),hr22⟩;refine ae.bind (kY (by omega) (by omega)) ?_;intro y6 (ky6:au y6<=25);refine aA (by simp<;>omega) ?_;refine ae.bind (bS (by first|omega|simp<;>omega) hg hr22 (by omega) (by omega)) ?_;rintro⟨⟨y7,y8,y9,y10,y11⟩,y12,x⟩ ⟨hg25,hr26⟩;refine ae.bind (ui (m:=100000) hr26 (by omega) (by simp) (by decide)) ?_;rintro⟨y13,y14,y15⟩ ⟨(a28:(-100000:Int)<=y13),(b29:y13<=(100000:Int)),hr27⟩;refine ae.bind (kY (by omega) (by omega)) ?_;intro y16 (ky16:au y16<=25);refine aA (by simp<;>omega) ?_;refine ae.bind (bS (by first|omega|simp<;>omega) hg25 hr27 (by omega) (by omega)) ?_;rintro⟨⟨y17,y18,y19,y20,y21⟩,y22,x1⟩ ⟨hg30,hr31⟩;refine ae.bind (eE (m:=3) hr31 (by omega) (by simp) (by decide)) ?_;rintro⟨y23,y24,y25⟩ ⟨(ky23:au y23<=3),hr32⟩;refine ae.bind (bS (by first|omega|simp<;>omega) hg30 hr32 (by omega) (by omega)) ?_;rintro⟨⟨y26,y27,y28,y29,y30⟩,y31,x2⟩ ⟨hg33,hr34⟩;exact ae.ret ⟨hg33.mono (by omega),hr34.mono (by omega)⟩
     ·refine ae.bind (ui (m:=100000) hr1 (by omega) (by simp) (by decide)) ?_;rintro⟨y3,y4,y5⟩ ⟨(a36:(-100000:Int)<=y3),(b37:y3<=(100000:Int)),hr35⟩;refine ae.bind (kY (by omega) (by omega)) ?_;intro y6 (ky6:au y6<=25);refine aA (by simp<;>omega) ?_;refine ae.bind (bS (by first|omega|simp<;>omega) hg hr35 (by omega) (by omega)) ?_;rintro⟨⟨y7,y8,y9,y10,y11⟩,y12,x⟩ ⟨hg38,hr39⟩;exact ae.ret ⟨hg38.mono (by omega),hr39.mono (by omega)⟩
 rintro⟨⟨o12,o21,o31,o41,o51⟩,o01,o13⟩ ⟨hg40,hr41⟩;exact ae.ret ⟨hg40.mono (by omega),hr41.mono (by omega)⟩
def Le {g:List UInt8×List UInt8×List UInt8×Int×List UInt8}{r:List UInt8×Int}{K:Nat}{c:Nat}(hg:Gt K g)(hr:Rd c r)(hK:K<=900000)(hc:c<=900000):ae (sV (g,r)) fun y=>Gt (K+300) y.1/\Rd (c+5) y.2:=by
 obtain⟨o1,o2,o3,o4,o5⟩:=g;obtain⟨o0,o11⟩:=r;unfold sV;refine ae.bind (cR hr (by omega)) ?_;rintro⟨y,y1,y2⟩ ⟨(a2:(0:Int)<=y),(b3:(1:Int)<=(10:Int)->y<(10:Int)),-,hr1⟩;refine ae.bindE (fun y=>Gt (K+220) y.1/\Rd (c+3) y.2) ?_ ?_
 ·refine aw (fun c4=>?_) (fun c4=>?_)
  ·refine ae.bind (bS (by first|omega|simp<;>omega) hg hr1 (by omega) (by omega)) ?_;rintro⟨⟨y3,y4,y5,y6,y7⟩,y8,x⟩ ⟨hg5,hr6⟩;exact ae.ret ⟨hg5.mono (by omega),hr6.mono (by omega)⟩
  ·refine ae.bindE (fun y=>Gt (K+0) y.2.2.1/\Rd (c+1) y.2.2.2) ?_ ?_
   ·refine aw (fun c7=>?_) (fun c7=>?_)
    ·exact ae.ret ⟨hg.mono (by omega),hr1.mono (by omega)⟩
    ·exact ae.ret ⟨hg.mono (by omega),hr1.mono (by omega)⟩
   rintro⟨v8,v15,⟨o12,o21,o31,o41,o51⟩,o01,o13⟩ ⟨hg8,hr9⟩;refine aw (fun c10=>?_) (fun c10=>?_)
   ·refine ae.bind (bS (by first|omega|simp<;>omega) hg8 hr9 (by omega) (by omega)) ?_;rintro⟨⟨y3,y4,y5,y6,y7⟩,y8,x⟩ ⟨hg11,hr12⟩;exact ae.ret ⟨hg11.mono (by omega),hr12.mono (by omega)⟩
   ·refine aw (fun c13=>?_) (fun c13=>?_)
    ·refine ae.bind (bS (by first|omega|simp<;>omega) hg8 hr9 (by omega) (by omega)) ?_;rintro⟨⟨y3,y4,y5,y6,y7⟩,y8,x⟩ ⟨hg14,hr15⟩;exact ae.ret ⟨hg14.mono (by omega),hr15.mono (by omega)⟩
    ·refine aw (fun c16=>?_) (fun c16=>?_)
     ·refine ae.bind (ie hg8 hr9 (by omega) (by omega)) ?_;rintro⟨y3,⟨y4,y5,y6,y7,y8⟩,x,x1⟩ ⟨(ky3:au y3<=25),hg17,hr18⟩;refine aA (by simp<;>omega) ?_;refine ae.bind (bS (by first|omega|simp<;>omega) hg17 hr18 (by omega) (by omega)) ?_;rintro⟨⟨y9,y10,y11,y12,y13⟩,y14,x2⟩ ⟨hg19,hr20⟩;refine ae.bind (eE (m:=1) hr20 (by omega) (by simp) (by decide)) ?_;rintro⟨y15,y16,y17⟩ ⟨(ky15:au y15<=1),hr21⟩;refine aA (by simp<;>omega) ?_;refine ae.bind (bS (by first|omega|simp<;>omega) hg19 hr21 (by omega) (by omega)) ?_;rintro⟨⟨y18,y19,y20,y21,y22⟩,y23,x3⟩ ⟨hg22,hr23⟩;exact ae.ret ⟨hg22.mono (by omega),hr23.mono (by omega)⟩
     ·refine aw (fun c24=>?_) (fun c24=>?_)
      ·refine ae.bind (ie hg8 hr9 (by omega) (by omega)) ?_;rintro⟨y3,⟨y4,y5,y6,y7,y8⟩,x,x1⟩ ⟨(ky3:au y3<=25),hg25,hr26⟩;refine aA (by simp<;>omega) ?_;refine ae.bind (bS (by first|omega|simp<;>omega) hg25 hr26 (by omega) (by omega)) ?_;rintro⟨⟨y9,y10,y11,y12,y13⟩,y14,x2⟩ ⟨hg27,hr28⟩;refine ae.bind (bS (by first|omega|simp<;>omega) hg27 hr28 (by omega) (by omega)) ?_;rintro⟨⟨y15,y16,y17,y18,y19⟩,y20,x3⟩ ⟨hg29,hr30⟩;exact ae.ret ⟨hg29.mono (by omega),hr30.mono (by omega)⟩
      ·refine aw (fun c31=>?_) (fun c31=>?_)
       ·refine ae.bind (eE (m:=3) hr9 (by omega) (by simp) (by decide)) ?_;rintro⟨y3,y4,y5⟩ ⟨(ky3:au y3<=3),hr32⟩;refine aA (by simp<;>omega) ?_;refine ae.bind (bS (by first|omega|simp<;>omega) hg8 hr32 (by omega) (by omega)) ?_;rintro⟨⟨y6,y7,y8,y9,y10⟩,y11,x⟩ ⟨hg33,hr34⟩;exact ae.ret ⟨hg33.mono (by omega),hr34.mono (by omega)⟩
       ·refine ae.bind (bS (by first|omega|simp<;>omega) hg8 hr9 (by omega) (by omega)) ?_;rintro⟨⟨y3,y4,y5,y6,y7⟩,y8,x⟩ ⟨hg35,hr36⟩;exact ae.ret ⟨hg35.mono (by omega),hr36.mono (by omega)⟩
 rintro⟨⟨o12,o21,o31,o41,o51⟩,o01,o13⟩ ⟨hg37,hr38⟩;exact ae.ret ⟨hg37.mono (by omega),hr38.mono (by omega)⟩
def zcu {g:List UInt8×List UInt8×List UInt8×Int×List UInt8}{r:List UInt8×Int}{K:Nat}{c:Nat}(hg:Gt K g)(hr:Rd c r)(hK:K<=850000)(hc:c<=850000):ae (wE (g,r)) fun y=>Gt (K+1200) y.1/\Rd (c+20) y.2:=by
 obtain⟨o1,o2,o3,o4,o5⟩:=g;obtain⟨o0,o11⟩:=r;unfold wE;refine ae.bind (eE (m:=6) hr (by omega) (by simp) (by decide)) ?_;rintro⟨y,y1,y2⟩ ⟨(ky:au y<=6),hr1⟩;refine ae.bindE (fun y=>au y.1<=10/\Gt (K+500) y.2.1/\Rd (c+11) y.2.2) ?_ ?_
 ·refine aw (fun c2=>?_) (fun c2=>?_)
  ·refine ae.bind (ie hg hr1 (by omega) (by omega)) ?_;rintro⟨y3,⟨y4,y5,y6,y7,y8⟩,x,x1⟩ ⟨(ky3:au y3<=25),hg3,hr4⟩;refine aA (by simp<;>omega) ?_;refine ae.bind (bS (by first|omega|simp<;>omega) hg3 hr4 (by omega) (by omega)) ?_;rintro⟨⟨y9,y10,y11,y12,y13⟩,y14,x2⟩ ⟨hg5,hr6⟩;exact ae.ret ⟨(by first|omega|simp<;>omega),hg5.mono (by omega),hr6.mono (by omega)⟩
  ·refine aw (fun c7=>?_) (fun c7=>?_)
   ·refine ae.bind (ie hg hr1 (by omega) (by omega)) ?_;rintro⟨y3,⟨y4,y5,y6,y7,y8⟩,x,x1⟩ ⟨(ky3:au y3<=25),hg8,hr9⟩;refine aA (by simp<;>omega) ?_;refine ae.bind (bS (by first|omega|simp<;>omega) hg8 hr9 (by omega) (by omega)) ?_;rintro⟨⟨y9,y10,y11,y12,y13⟩,y14,x2⟩ ⟨hg10,hr11⟩;refine ae.bind (ie hg10 hr11 (by omega) (by omega)) ?_;rintro⟨y15,⟨y16,y17,y18,y19,y20⟩,x3,x4⟩ ⟨(ky15:au y15<=25),hg12,hr13⟩;refine aA (by simp<;>omega) ?_;refine ae.bind (bS (by first|omega|simp<;>omega) hg12 hr13 (by omega) (by omega)) ?_;rintro⟨⟨y21,y22,y23,y24,y25⟩,y26,x5⟩ ⟨hg14,hr15⟩;exact ae.ret ⟨(by first|omega|simp<;>omega),hg14.mono (by omega),hr15.mono (by omega)⟩
   ·refine ae.bind (ze hg hr1 (by omega) (by omega)) ?_;rintro⟨⟨y3,y4,y5,y6,y7⟩,y8,x⟩ ⟨hg16,hr17⟩;exact ae.ret ⟨(by first|omega|simp<;>omega),hg16.mono (by omega),hr17.mono (by omega)⟩
 rintro⟨test,⟨o12,o21,o31,o41,o51⟩,o01,o13⟩ ⟨(ktest:au test<=10),hg18,hr19⟩;refine aA (by simp<;>omega) ?_;refine ae.bind (kY (ug _).1 (ug _).2) ?_;intro y3 (ky3:au y3<=25);refine aA (by simp<;>omega) ?_;refine ae.bind (bS (by first|omega|simp<;>omega) hg18 hr19 (by omega) (by omega)) ?_;rintro⟨⟨y4,y5,y6,y7,y8⟩,y9,x⟩ ⟨hg20,hr21⟩;refine ae.bind (bS (by first|omega|simp<;>omega) hg20 hr21 (by omega) (by omega)) ?_;rintro⟨⟨y10,y11,y12,y13,y14⟩,y15,x1⟩ ⟨hg22,hr23⟩;refine ae.bind (bS (by first|omega|simp<;>omega) hg22 hr23 (by omega) (by omega)) ?_;rintro⟨⟨y16,y17,y18,y19,y20⟩,y21,x2⟩ ⟨hg24,hr25⟩;refine ae.bind (DT hg24 hr25 (by omega) (by omega)) ?_;rintro⟨y22,⟨y23,y24,y25,y26,y27⟩,x3,x4⟩ ⟨(ky22:au y22<=20),hg26,hr27⟩;refine ae.bind (eE (m:=1) hr27 (by omega) (by simp) (by decide)) ?_;rintro⟨y28,y29,y30⟩ ⟨(ky28:au y28<=1),hr28⟩;refine ae.bind (DU (by first|omega|simp<;>omega) (by first|omega|simp<;>omega) hg26 hr28 (by omega) (by omega)) ?_;rintro⟨⟨y31,y32,y33,y34,y35⟩,y36,x5⟩ ⟨hg29,hr30⟩;exact ae.ret ⟨hg29.mono (by omega),hr30.mono (by omega)⟩
def zcv {g:List UInt8×List UInt8×List UInt8×Int×List UInt8}{r:List UInt8×Int}{K:Nat}{c:Nat}(hg:Gt K g)(hr:Rd c r)(hK:K<=850000)(hc:c<=850000):ae (wF (g,r)) fun y=>Gt (K+600) y.1/\Rd (c+5) y.2:=by
 obtain⟨o1,o2,o3,o4,o5⟩:=g;obtain⟨o0,o11⟩:=r;unfold wF;refine ae.bind (cR hr (by omega)) ?_;rintro⟨y,y1,y2⟩ ⟨(a2:(0:Int)<=y),(b3:(1:Int)<=(5:Int)->y<(5:Int)),-,hr1⟩;refine ae.bindE (fun y=>Gt (K+440) y.1/\Rd (c+2) y.2) ?_ ?_
 ·refine aw (fun c4=>?_) (fun c4=>?_)
  ·refine ae.bind (ie hg hr1 (by omega) (by omega)) ?_;rintro⟨y3,⟨y4,y5,y6,y7,y8⟩,x,x1⟩ ⟨(ky3:au y3<=25),hg5,hr6⟩;refine aA (by simp<;>omega) ?_;refine ae.bind (bS (by first|omega|simp<;>omega) hg5 hr6 (by omega) (by omega)) ?_;rintro⟨⟨y9,y10,y11,y12,y13⟩,y14,x2⟩ ⟨hg7,hr8⟩;refine ae.bind (bS (by first|omega|simp<;>omega) hg7 hr8 (by omega) (by omega)) ?_;rintro⟨⟨y15,y16,y17,y18,y19⟩,y20,x3⟩ ⟨hg9,hr10⟩;refine ae.bind (bS (by first|omega|simp<;>omega) hg9 hr10 (by omega) (by omega)) ?_;rintro⟨⟨y21,y22,y23,y24,y25⟩,y26,x4⟩ ⟨hg11,hr12⟩;exact ae.ret ⟨hg11.mono (by omega),hr12.mono (by omega)⟩
  ·refine aw (fun c13=>?_) (fun c13=>?_)
   ·refine ae.bind (bS (by first|omega|simp<;>omega) hg hr1 (by omega) (by omega)) ?_;rintro⟨⟨y3,y4,y5,y6,y7⟩,y8,x⟩ ⟨hg14,hr15⟩;refine ae.bind (ie hg14 hr15 (by omega) (by omega)) ?_;rintro⟨y9,⟨y10,y11,y12,y13,y14⟩,x1,x2⟩ ⟨(ky9:au y9<=25),hg16,hr17⟩;refine aA (by simp<;>omega) ?_;refine ae.bind (bS (by first|omega|simp<;>omega) hg16 hr17 (by omega) (by omega)) ?_;rintro⟨⟨y15,y16,y17,y18,y19⟩,y20,x3⟩ ⟨hg18,hr19⟩;exact ae.ret ⟨hg18.mono (by omega),hr19.mono (by omega)⟩
   ·refine aw (fun c20=>?_) (fun c20=>?_)
    ·refine ae.bind (bS (by first|omega|simp<;>omega) hg hr1 (by omega) (by omega)) ?_;rintro⟨⟨y3,y4,y5,y6,y7⟩,y8,x⟩ ⟨hg21,hr22⟩;refine ae.bind (ie hg21 hr22 (by omega) (by omega)) ?_;rintro⟨y9,⟨y10,y11,y12,y13,y14⟩,x1,x2⟩ ⟨(ky9:au y9<=25),hg23,hr24⟩;refine aA (by simp<;>omega) ?_;refine ae.bind (bS (by first|omega|simp<;>omega) hg23 hr24 (by omega) (by omega)) ?_;rintro⟨⟨y15,y16,y17,y18,y19⟩,y20,x3⟩ ⟨hg25,hr26⟩;exact ae.ret ⟨hg25.mono (by omega),hr26.mono (by omega)⟩
    ·refine aw (fun c27=>?_) (fun c27=>?_)
     ·refine ae.bind (ie hg hr1 (by omega) (by omega)) ?_;rintro⟨y3,⟨y4,y5,y6,y7,y8⟩,x,x1⟩ ⟨(ky3:au y3<=25),hg28,hr29⟩;refine aA (by simp<;>omega) ?_;refine ae.bind (bS (by first|omega|simp<;>omega) hg28 hr29 (by omega) (by omega)) ?_;rintro⟨⟨y9,y10,y11,y12,y13⟩,y14,x2⟩ ⟨hg30,hr31⟩;refine ae.bind (bS (by first|omega|simp<;>omega) hg30 hr31 (by omega) (by omega)) ?_;rintro⟨⟨y15,y16,y17,y18,y19⟩,y20,x3⟩ ⟨hg32,hr33⟩;exact ae.ret ⟨hg32.mono (by omega),hr33.mono (by omega)⟩
     ·refine ae.bind (bS (by first|omega|simp<;>omega) hg hr1 (by omega) (by omega)) ?_;rintro⟨⟨y3,y4,y5,y6,y7⟩,y8,x⟩ ⟨hg34,hr35⟩;refine ae.bind (ie hg34 hr35 (by omega) (by omega)) ?_;rintro⟨y9,⟨y10,y11,y12,y13,y14⟩,x1,x2⟩ ⟨(ky9:au y9<=25),hg36,hr37⟩;refine aA (by simp<;>omega) ?_;refine ae.bind (bS (by first|omega|simp<;>omega) hg36 hr37 (by omega) (by omega)) ?_;rintro⟨⟨y15,y16,y17,y18,y19⟩,y20,x3⟩ ⟨hg38,hr39⟩;refine ae.bind (bS (by first|omega|simp<;>omega) hg38 hr39 (by omega) (by omega)) ?_;rintro⟨⟨y21,y22,y23,y24,y25⟩,y26,x4⟩ ⟨hg40,hr41⟩;refine ae.bind (bS (by first|omega|simp<;>omega) hg40 hr41 (by omega) (by omega)) ?_;rintro⟨⟨y27,y28,y29,y30,y31⟩,y32,x5⟩ ⟨hg42,hr43⟩;exact ae.ret ⟨hg42.mono (by omega),hr43.mono (by omega)⟩
 rintro⟨⟨o12,o21,o31,o41,o51⟩,o01,o13⟩ ⟨hg44,hr45⟩;exact ae.ret ⟨hg44.mono (by omega),hr45.mono (by omega)⟩
end
end Go.Proofs.YtdpapeledldifaaGreat
