/- Part 30 of the proof of FnDeep; no condition. -/
import Derived.Test.YtdpapeledldifaaGreatX28
open Option renaming some -> U
open Decidable renaming decide -> aa
open Bool renaming true -> ad
open Bool renaming false -> ag
open Option renaming none -> aj
open Sum renaming inl -> an
open Sum renaming inr -> ao
open List renaming length -> au
open Int renaming toNat -> aH
open List renaming drop -> kZ
open List renaming take -> nY
set_option autoImplicit true
set_option relaxedAutoImplicit true
set_option linter.all false
section
namespace Go.Proofs.YtdpapeledldifaaGreat
open Go Go.AM Go.TM
end Go.Proofs.YtdpapeledldifaaGreat
namespace Go.TM
open Go.AM
section
variable {σ α β Z:Type}
def St (Re:σ->Option (List UInt8)->Prop)(q:Option Z)(mk:β->σ->Z)(m:Option (β×List UInt8)):Prop :=
 ∃v s,q=U (mk v s)/\Re s (m.map (·.2))/\∀v' l,m=U (v',l)->v=v'
variable {Re:σ->Option (List UInt8)->Prop}
def St.step {F:Option (α×σ)}{g:List UInt8->Option (α×List UInt8)}{st:Option (List UInt8)}{k:α×σ->Option Z}{mk:β->σ->Z}{k':α->List UInt8->Option (β×List UInt8)}
  (hF:Sm Re F (st.bind g)) (hk:∀v s' st',Re s' st'->St Re (k (v,s')) mk (st'.bind (k' v))) :
  St Re (ai F k) mk (st.bind fun l=>(g l).bind fun p=>k' p.1 p.2):=by
 have e:(st.bind fun l=>(g l).bind fun p=>k' p.1 p.2)=(st.bind g).bind fun p=>k' p.1 p.2:=by cases st<;>rfl
 rw[e];obtain⟨v,s,hr,h1,h2⟩:=hF;rw[hr,av];have:=hk v s _ h1;cases hm:st.bind g with
 |none=>rw[hm]at this;exact this
 | some p=>
   rw[hm]at this h2;have e:=h2 p.1 p.2 rfl;subst e;exact this
def uu {F:Option (β×σ)}{g:List UInt8->Option (β×List UInt8)}{st:Option (List UInt8)}{k:β×σ->Option Z}{mk:β->σ->Z}(hF:Sm Re F (st.bind g))(hk:∀ v s',k (v,s')=U (mk v s')):St Re (ai F k) mk (st.bind g):=by
 obtain⟨v,s,hr,h1,h2⟩:=hF;rw[hr,av,hk];exact⟨v,s,rfl,h1,h2⟩
def St.ret {s:σ}{st:Option (List UInt8)}{mk:β->σ->Z}(h:Re s st)(v:β):St Re (U (mk v s)) mk (st.bind fun l=>U (v,l)):=by
 refine⟨v,s,rfl,?_,fun v' l hl=>?_⟩
 ·cases st with
  |none=>exact h
  |some l=>exact h
 ·cases st with
  |none=>cases hl
  |some l=>simp only[bh,aK,bH]at hl;exact hl.1
end
end Go.TM
namespace Go.Proofs.YtdpapeledldifaaGreat
open Go Go.AM Go.TM
def jL {β γ:Type}(most:Int)(g:List UInt8->Option (β×List UInt8))(K:List β->List UInt8->Option (γ×List UInt8)) :
  (fun l=>(cM most g l).bind fun p=>K p.1 p.2)=fun l=>(g1 l).bind fun p=>if most<p.1 then aj else(bZ g p.1.toNat p.2).bind fun q=>K q.1 q.2:=by
 funext l;unfold cM;cases g1 l with
 |none=>rfl
 |some p=>simp only[bh];split<;>rfl
def Jz {β:Type}(m:List UInt8->Option (β×List UInt8)):(fun l=>(m l).bind fun p=>U (p.1,p.2))=m:=by funext l;cases m l<;>rfl
def jM {most v:Int}{st st1:Option (List UInt8)}(e1:∀ l',st1=U l'->∃ l,st=U l/\g1 l=U (v,l')){l:List UInt8}(hl:(if most<v then aj else st1)=U l):0<=v/\v<=most:=by
 split at hl
 ·cases hl
 ·obtain⟨_,_,hg⟩:=e1 l hl;have:=iS hg;omega
def eh (l:List UInt8):Option (Knd×List UInt8):=(g1 l).bind fun p=>if p.1=3 then(g2 p.2).bind fun q=>U ((3,q.1),q.2)else if 3<p.1 then aj else U ((p.1,0),p.2)
def iU (l:List UInt8):Option (Trp×List UInt8):=(g2 l).bind fun p=>(g2 p.2).bind fun q=>(g2 q.2).bind fun r=>(g2 r.2).bind fun s=>U ((p.1,q.1,r.1,s.1),s.2)
def iV (l:List UInt8):Option (Frm×List UInt8):=(g2 l).bind fun p=>(cM 8 eh p.2).bind fun q=>(cM 8 eh q.2).bind fun r=>U ((p.1,q.1,r.1),r.2)
def iW (l:List UInt8):Option (Fld×List UInt8):=(g1 l).bind fun p=>(g2 p.2).bind fun q=>(g2 q.2).bind fun r=>U ((p.1,q.1,r.1),r.2)
def g_ (y:Int):Prop:=Int.tdiv (Int.tmod y 16) 8=1
instance (y:Int):Decidable (g_ y):=inferInstanceAs (Decidable (Int.tdiv (Int.tmod y 16) 8=1))
def b7 (f n d s lo:Int)(code:List UInt8)(tr:List Trp)(l:List UInt8):Option (Mth×List UInt8):=(cM 8 iV l).bind fun p=>U ((f,n,d,s,lo,code,tr,p.1),p.2)
def b6 (f n d s lo:Int)(code:List UInt8)(l:List UInt8):Option (Mth×List UInt8):=(cM 3 iU l).bind fun p=>b7 f n d s lo code p.1 p.2
def b5 (f n d s lo c:Int)(l:List UInt8):Option (Mth×List UInt8):=if 120<c then aj else(gT c l).bind fun p=>b6 f n d s lo p.1 p.2
def b4 (f n d s lo:Int)(l:List UInt8):Option (Mth×List UInt8):=(g2 l).bind fun p=>b5 f n d s lo p.1 p.2
def b3 (f n d s:Int)(l:List UInt8):Option (Mth×List UInt8):=(g1 l).bind fun p=>b4 f n d s p.1 p.2
def qQ (f n d:Int)(l:List UInt8):Option (Mth×List UInt8):=(g1 l).bind fun p=>b3 f n d p.1 p.2
def m3 (f n d:Int)(l:List UInt8):Option (Mth×List UInt8):=if g_ f then U ((f,n,d,0,0,[],[],[]),l)else qQ f n d l
def m2 (f n:Int)(l:List UInt8):Option (Mth×List UInt8):=(g2 l).bind fun p=>m3 f n p.1 p.2
def m1 (f:Int)(l:List UInt8):Option (Mth×List UInt8):=(g2 l).bind fun p=>m2 f p.1 p.2
def f9 (l:List UInt8):Option (Mth×List UInt8):=(g1 l).bind fun p=>m1 p.1 p.2
def jN (pool:List Cst)(f n s:Int)(fa:List Int)(fi:List Fld)(l:List UInt8):Option (Cls×List UInt8):=(cM 6 f9 l).bind fun p=>U ((pool,f,n,s,fa,fi,p.1),p.2)
def hY (pool:List Cst)(f n s:Int)(fa:List Int)(l:List UInt8):Option (Cls×List UInt8):=(cM 5 iW l).bind fun p=>jN pool f n s fa p.1 p.2
def yy (pool:List Cst)(f n s:Int)(l:List UInt8):Option (Cls×List UInt8):=(cM 3 g2 l).bind fun p=>hY pool f n s p.1 p.2
def fL (pool:List Cst)(f n:Int)(l:List UInt8):Option (Cls×List UInt8):=(g2 l).bind fun p=>yy pool f n p.1 p.2
def mF (pool:List Cst)(f:Int)(l:List UInt8):Option (Cls×List UInt8):=(g2 l).bind fun p=>fL pool f p.1 p.2
def iX (pool:List Cst)(l:List UInt8):Option (Cls×List UInt8):=(g1 l).bind fun p=>mF pool p.1 p.2
def kQ (l:List UInt8):Option (Cls×List UInt8):=(cM 60 gw l).bind fun p=>iX p.1 p.2
def iY (t:List UInt8)(l:List UInt8):Option (Cls×List UInt8):=if ¬t=[83,84,79,87]then aj else kQ l
def hZ (l:List UInt8):Option (Cls×List UInt8):=(gT 4 l).bind fun p=>iY p.1 p.2
def JA {s0:List UInt8}(s:List UInt8×Int×Bool)(st:Option (List UInt8))(h:dk s0 s st):Sm (dk s0) (s7 s) (st.bind (cM 8 eh)):=by
 obtain⟨o0,o1,o2⟩:=s;simp only[s7]
 rw[<-Jz (cM 8 eh),jL 8 eh fun p l=>U (p,l)];refine Sm.step (gX _ st h) (k':=fun n l=>if 8<n then aj else(bZ eh n.toNat l).bind fun q=>U (q.1,q.2)) fun v ⟨a,b,c⟩ st1 h1 e1=>?_
 simp only[mE]
 rw[show(if(8:Int)<v then(([]:List Knd),v,a,b,ad)else([],v,a,b,c))=([],v,a,b,if 8<v then ad else c)by split<;>rfl];simp only
 rw[f8];have h2:=h1.cut (8<v);refine Sm.loop (fun out i s=>(out,v,(i:Int),s)) (fun out s=>(out,s)) v.toNat eh h2 (k':=fun p l=>U (p,l)) rfl ?_ ?_ ?_
 ·intro out i ⟨a,b,c⟩ hs;have:=hs.2.2.2.2.1 rfl;simp only at this;subst this;by_cases hi:(i:Int)<v<;>simp only[hi,ay,bm,aP,aQ,Bool.not_true,aT]
 ·intro l hl;have hv:=jM e1 hl;refine⟨fun out ⟨a,b,c⟩ l hs=>?_,fun out i ⟨a,b,c⟩ l hi ho hs=>?_⟩
  ·have hi:¬((v.toNat:Int)<v):=by omega
   simp only[hi,bm,aQ,aT]
  ·have hi':(i:Int)<v:=by omega
   have hc:=(hs.2.2.2.2.2 l rfl).1;simp only at hc;subst hc;simp only[hi',ay,aP,Bool.not_false,aJ]
   have hk:Sm (dk s0) (ai (e7 (a,b,ag)) fun x=>match x with
     | (y4,y5,y6,y7)=>bindE (Y:=(Int×Int)×List UInt8×Int×Bool) (ah (aa (y4=3)) (ai (eQ (y5,y6,y7)) fun x=>match x with|(y8,y9,y10,y11)=>U (.inl ((y4,y8),y9,y10,y11))) (U (.inl ((y4,0),y5,y6,y7))))
       fun x=>match x with|((o04,o14),o05,o15,o24)=>ah (aa (3<o04)) (U ((o04,o14),o05,o15,ad)) (U ((o04,o14),o05,o15,o24))) ((U l).bind eh):=by
    refine Sm.step (gX _ _ hs) (k':=fun p l=>if p=3 then(g2 l).bind fun q=>U ((3,q.1),q.2)else if 3<p then aj else U ((p,0),l)) fun w ⟨a2,b2,kQ⟩ st2 h2 e2=>?_
    simp only[aF,eg]
    by_cases hw:w=3
    ·subst hw;simp only[↓reduceIte,kh,aJ,bG]
     exact Sm.step (gY _ st2 h2) (k':=fun q l=>U ((3,q),l)) fun n ⟨a3,b3,iX⟩ st3 h3 e3=>Sm.ret h3 _
    ·simp only[hw,↓reduceIte,aJ]
     rw[f8];by_cases h3:3<w
     ·simp only[h3,↓reduceIte]
      exact⟨_,_,rfl,h2.bad,fun _ _ h=>by cases h⟩
     ·simp only[h3,↓reduceIte]
      exact Sm.ret h2 _
   refine hk.one (mk:=fun w s=>(out++[w],v,((i+1:Nat):Int),s)) fun w s' hr=>?_
   rcases h221:e7 (a,b,ag)with _|⟨y4,y5,y6,y7⟩
   ·rw[h221]at hr;cases hr
   ·rw[h221]at hr;simp only[av,aF,eg]at hr ⊢;have ho1:out.length+1<=9223372036854775807:=by omega
    have ho2:(out.length+1)*16<=140737488355328:=by omega
    have hwi:IntKind.wrap .i64 ((i:Int)+1)=((i+1:Nat):Int):=by rw[wI (by omega) (by omega)];omega
    by_cases hy:y4=3
    ·subst hy;simp only[↓reduceIte,kh,aJ,bG]at hr ⊢;rcases h222:eQ (y5,y6,y7)with _|⟨y8,y9,y10,y11⟩
     ·rw[h222]at hr;cases hr
     ·rw[h222]at hr;simp only[av,aK,bH]at hr ⊢;obtain⟨rfl,rfl⟩:=hr;simp only[ho1,ho2,ay,ck,aC,aJ,hwi]
    ·simp only[hy,↓reduceIte,aJ]at hr ⊢;by_cases h3:3<y4
     ·simp only[h3,↓reduceIte,aK,bH]at hr ⊢;obtain⟨rfl,rfl⟩:=hr;simp only[ho1,ho2,ay,ck,aC,aJ,hwi]
     ·simp only[h3,↓reduceIte,aK,bH]at hr ⊢;obtain⟨rfl,rfl⟩:=hr;simp only[ho1,ho2,ay,ck,aC,aJ,hwi]
 ·intro out ⟨a,b,c⟩ st' hs;exact Sm.ret hs _
def zas {s0:List UInt8}(vf vn vd:Int)(s:List UInt8×Int×Bool)(st:Option (List UInt8))(h:dk s0 s st):Sm (dk s0) (xg ((vf,vn,vd,0,0,[]),s)) (st.bind (qQ vf vn vd)):=by
 obtain⟨o0,o1,o2⟩:=s;simp only[xg]
 refine Sm.step (gX _ st h) (k':=b3 vf vn vd) fun vs ⟨a,b,c⟩ st1 h1 e1=>?_
 refine Sm.step (gX _ st1 h1) (k':=b4 vf vn vd vs) fun vl ⟨a,b,c⟩ st2 h2 e2=>?_
 refine Sm.step (gY _ st2 h2) (k':=b5 vf vn vd vs vl) fun v ⟨a,b,c⟩ st3 h3 e3=>?_
 show Sm _ _ (st3.bind fun l=>if 120<v then aj else(gT v l).bind fun p=>b6 vf vn vd vs vl p.1 p.2);simp only[mE]
 rw[show(if(120:Int)<v then(v,(vf,vn,vd,vs,vl,([]:List UInt8),([]:List Trp),([]:List Frm)),((0:Int),(0:Int),(0:Int),(0:Int),(0:Int),([]:List UInt8),([]:List Trp),([]:List Frm)),a,b,ad)else(v,(vf,vn,vd,vs,vl,([]:List UInt8),([]:List Trp),([]:List Frm)),((0:Int),(0:Int),(0:Int),(0:Int),(0:Int),([]:List UInt8),([]:List Trp),([]:List Frm)),a,b,c))=(v,(vf,vn,vd,vs,vl,([]:List UInt8),([]:List Trp),([]:List Frm)),((0:Int),(0:Int),(0:Int),(0:Int),(0:Int),([]:List UInt8),([]:List Trp),([]:List Frm)),a,b,if 120<v then ad else c)by split<;>rfl];simp only
 rw[f8];have h4:=h3.cut (120<v);refine Sm.step (CM v _ _ h4 fun l hl=>?_) (k':=b6 vf vn vd vs vl) fun vc ⟨a,b,c⟩ st4 h5 e4=>?_
 ·split at hl
  ·cases hl
  ·obtain⟨_,_,hg⟩:=e3 l hl;exact CL hg
 show Sm _ _ (st4.bind fun l=>(cM 3 iU l).bind fun p=>b7 vf vn vd vs vl vc p.1 p.2);rw[jL 3 iU (b7 vf vn vd vs vl vc)];refine Sm.step (gX _ st4 h5) (k':=fun n l=>if 3<n then aj else(bZ iU n.toNat l).bind fun q=>b7 vf vn vd vs vl vc q.1 q.2) fun v2 ⟨a,b,c⟩ st5 h6 e5=>?_
 simp only[mE]
 rw[show(if(3:Int)<v2 then(v2,(vf,vn,vd,vs,vl,vc,([]:List Trp),([]:List Frm)),((0:Int),(0:Int),(0:Int),(0:Int),(0:Int),([]:List UInt8),([]:List Trp),([]:List Frm)),a,b,ad)else(v2,(vf,vn,vd,vs,vl,vc,([]:List Trp),([]:List Frm)),((0:Int),(0:Int),(0:Int),(0:Int),(0:Int),([]:List UInt8),([]:List Trp),([]:List Frm)),a,b,c))=(v2,(vf,vn,vd,vs,vl,vc,([]:List Trp),([]:List Frm)),((0:Int),(0:Int),(0:Int),(0:Int),(0:Int),([]:List UInt8),([]:List Trp),([]:List Frm)),a,b,if 3<v2 then ad else c)by split<;>rfl];simp only
 rw[f8];have h7:=h6.cut (3<v2);refine Sm.loop (fun out i s=>(v2,(i:Int),(vf,vn,vd,vs,vl,vc,out,([]:List Frm)),((0:Int),(0:Int),(0:Int),(0:Int),(0:Int),([]:List UInt8),([]:List Trp),([]:List Frm)),s)) (fun out s=>((vf,vn,vd,vs,vl,vc,out,([]:List Frm)),((0:Int),(0:Int),(0:Int),(0:Int),(0:Int),([]:List UInt8),([]:List Trp),([]:List Frm)),s)) v2.toNat iU h7 (k':=b7 vf vn vd vs vl vc) rfl ?_ ?_ ?_
 ·intro out i ⟨a,b,c⟩ hs;have:=hs.2.2.2.2.1 rfl;simp only at this;subst this;by_cases hi:(i:Int)<v2<;>simp only[hi,ay,bm,aP,aQ,Bool.not_true,aT]
 ·intro l hl;have hv:=jM e5 hl;refine⟨fun out ⟨a,b,c⟩ l hs=>?_,fun out i ⟨a,b,c⟩ l hi ho hs=>?_⟩
  ·have hi:¬((v2.toNat:Int)<v2):=by omega
   simp only[hi,bm,aQ,aT]
  ·have hi':(i:Int)<v2:=by omega
   have hc:=(hs.2.2.2.2.2 l rfl).1;simp only at hc;subst hc;simp only[hi',ay,aP,Bool.not_false,aJ]
   have ho1:out.length+1<=9223372036854775807:=by omega
   have ho2:(out.length+1)*32<=140737488355328:=by omega
   have hwi:IntKind.wrap .i64 ((i:Int)+1)=((i+1:Nat):Int):=by rw[wI (by omega) (by omega)];omega
   show St (dk s0) _ (fun w s'=>Sum.inl ((v2,((i+1:Nat):Int),(vf,vn,vd,vs,vl,vc,out++[w],([]:List Frm)),((0:Int),(0:Int),(0:Int),(0:Int),(0:Int),([]:List UInt8),([]:List Trp),([]:List Frm)),s'))) ((U l).bind iU);refine St.step (gY _ _ hs) (k':=fun p l=>(g2 l).bind fun q=>(g2 q.2).bind fun r=>(g2 r.2).bind fun s=>U ((p,q.1,r.1,s.1),s.2)) fun w0 ⟨a5,b5,fL⟩ t0 g0=>?_
   refine St.step (gY _ _ g0) (k':=fun q l=>(g2 l).bind fun r=>(g2 r.2).bind fun s=>U ((w0,q,r.1,s.1),s.2)) fun w1 ⟨a6,b6,gc6⟩ t1 g1=>?_
   refine St.step (gY _ _ g1) (k':=fun r l=>(g2 l).bind fun s=>U ((w0,w1,r,s.1),s.2)) fun w2 ⟨a7,b7,hY⟩ t2 g2=>?_
   refine St.step (gY _ _ g2) (k':=fun s l=>U ((w0,w1,w2,s),l)) fun w3 ⟨a8,b8,jN⟩ t3 g3=>?_
   simp only[ho1,ho2,ay,ck,aC,hwi]
   exact St.ret (mk:=fun w s'=>Sum.inl ((v2,((i+1:Nat):Int),(vf,vn,vd,vs,vl,vc,out++[w],([]:List Frm)),((0:Int),(0:Int),(0:Int),(0:Int),(0:Int),([]:List UInt8),([]:List Trp),([]:List Frm)),s'))) g3 _
 ·intro out ⟨a,b,c⟩ st' hs;show Sm _ _ (st'.bind fun l=>(cM 8 iV l).bind fun p=>U ((vf,vn,vd,vs,vl,vc,out,p.1),p.2));rw[jL 8 iV fun p l=>U ((vf,vn,vd,vs,vl,vc,out,p),l)];refine Sm.step (gX _ _ hs) (k':=fun n l=>if 8<n then aj else(bZ iV n.toNat l).bind fun q=>U ((vf,vn,vd,vs,vl,vc,out,q.1),q.2)) fun v3 ⟨a,b,c⟩ st6 h8 e6=>?_
  simp only[mE]
  rw[show(if(8:Int)<v3 then(v3,(vf,vn,vd,vs,vl,vc,out,([]:List Frm)),((0:Int),(0:Int),(0:Int),(0:Int),(0:Int),([]:List UInt8),([]:List Trp),([]:List Frm)),a,b,ad)else(v3,(vf,vn,vd,vs,vl,vc,out,([]:List Frm)),((0:Int),(0:Int),(0:Int),(0:Int),(0:Int),([]:List UInt8),([]:List Trp),([]:List Frm)),a,b,c))=(v3,(vf,vn,vd,vs,vl,vc,out,([]:List Frm)),((0:Int),(0:Int),(0:Int),(0:Int),(0:Int),([]:List UInt8),([]:List Trp),([]:List Frm)),a,b,if 8<v3 then ad else c)by split<;>rfl];simp only
  rw[f8];have h9:=h8.cut (8<v3);generalize out=tr;refine Sm.loop (fun out i s=>(v3,(i:Int),(vf,vn,vd,vs,vl,vc,tr,out),((0:Int),(0:Int),(0:Int),(0:Int),(0:Int),([]:List UInt8),([]:List Trp),([]:List Frm)),s)) (fun out s=>((vf,vn,vd,vs,vl,vc,tr,out),((0:Int),(0:Int),(0:Int),(0:Int),(0:Int),([]:List UInt8),([]:List Trp),([]:List Frm)),s)) v3.toNat iV h9 (k':=fun p l=>U ((vf,vn,vd,vs,vl,vc,tr,p),l)) rfl ?_ ?_ ?_
  ·intro out i ⟨a,b,c⟩ hs;have:=hs.2.2.2.2.1 rfl;simp only at this;subst this;by_cases hi:(i:Int)<v3<;>simp only[hi,ay,bm,aP,aQ,Bool.not_true,aT]
  ·intro l hl;have hv:=jM e6 hl;refine⟨fun out ⟨a,b,c⟩ l hs=>?_,fun out i ⟨a,b,c⟩ l hi ho hs=>?_⟩
   ·have hi:¬((v3.toNat:Int)<v3):=by omega
    simp only[hi,bm,aQ,aT]
   ·have hi':(i:Int)<v3:=by omega
    have hc:=(hs.2.2.2.2.2 l rfl).1;simp only at hc;subst hc;simp only[hi',ay,aP,Bool.not_false,aJ]
    have ho1:out.length+1<=9223372036854775807:=by omega
    have ho2:(out.length+1)*56<=140737488355328:=by omega
    have hwi:IntKind.wrap .i64 ((i:Int)+1)=((i+1:Nat):Int):=by rw[wI (by omega) (by omega)];omega
    show St (dk s0) _ (fun w s'=>Sum.inl ((v3,((i+1:Nat):Int),(vf,vn,vd,vs,vl,vc,tr,out++[w]),((0:Int),(0:Int),(0:Int),(0:Int),(0:Int),([]:List UInt8),([]:List Trp),([]:List Frm)),s'))) ((U l).bind iV);refine St.step (gY _ _ hs) (k':=fun p l=>(cM 8 eh l).bind fun q=>(cM 8 eh q.2).bind fun r=>U ((p,q.1,r.1),r.2)) fun w0 ⟨a5,b5,fL⟩ t0 g0=>?_
    refine St.step (JA _ _ g0) (k':=fun q l=>(cM 8 eh l).bind fun r=>U ((w0,q,r.1),r.2)) fun w1 ⟨a6,b6,gc6⟩ t1 g1=>?_
    refine St.step (JA _ _ g1) (k':=fun r l=>U ((w0,w1,r),l)) fun w2 ⟨a7,b7,hY⟩ t2 g2=>?_
    simp only[ho1,ho2,ay,ck,aC,hwi]
    exact St.ret (mk:=fun w s'=>Sum.inl ((v3,((i+1:Nat):Int),(vf,vn,vd,vs,vl,vc,tr,out++[w]),((0:Int),(0:Int),(0:Int),(0:Int),(0:Int),([]:List UInt8),([]:List Trp),([]:List Frm)),s'))) g2 _
  ·intro out ⟨a,b,c⟩ st' hs;exact Sm.ret hs _
def zat {s0:List UInt8}(s:List UInt8×Int×Bool)(st:Option (List UInt8))(h:dk s0 s st):Sm (dk s0) (xh s) (st.bind f9):=by
 obtain⟨o0,o1,o2⟩:=s;simp only[xh]
 refine Sm.step (gX _ st h) (k':=m1) fun vf ⟨a,b,c⟩ st1 h1 e1=>?_
 refine Sm.step (gY _ st1 h1) (k':=m2 vf) fun vn ⟨a,b,c⟩ st2 h2 e2=>?_
 refine Sm.step (gY _ st2 h2) (k':=m3 vf vn) fun vd ⟨a,b,c⟩ st3 h3 e3=>?_
 have hw:IntKind.wrap .i64 (Int.tdiv (Int.tmod vf 16) 8)=Int.tdiv (Int.tmod vf 16) 8:=by
  have h1:=Int.tmod_lt_of_pos vf (show(0:Int)<16 by omega)
  have h2 : -16<Int.tmod vf 16:=by
   rcases Int.lt_or_le vf 0 with hv|hv
   ·have e:Int.tmod vf 16 = - Int.tmod (-vf) 16:=by rw[Int.neg_tmod];omega
    have:=Int.tmod_lt_of_pos (-vf) (show(0:Int)<16 by omega);omega
   ·have:=Int.tmod_nonneg 16 hv;omega
  generalize Int.tmod vf 16=q at h1 h2
  have h3 : -3<Int.tdiv q 8:=by
   rcases Int.lt_or_le q 0 with hq|hq
   ·have e:Int.tdiv q 8 = - Int.tdiv (-q) 8:=by rw[Int.neg_tdiv];omega
    have:Int.tdiv (-q) 8=(-q) / 8:=Int.tdiv_eq_ediv_of_nonneg (by omega);omega
   ·have:Int.tdiv q 8=q / 8:=Int.tdiv_eq_ediv_of_nonneg hq;omega
  have h4:Int.tdiv q 8<3:=by
   rcases Int.lt_or_le q 0 with hq|hq
   ·have e:Int.tdiv q 8 = - Int.tdiv (-q) 8:=by rw[Int.neg_tdiv];omega
    have:Int.tdiv (-q) 8=(-q) / 8:=Int.tdiv_eq_ediv_of_nonneg (by omega);omega
   ·have:Int.tdiv q 8=q / 8:=Int.tdiv_eq_ediv_of_nonneg hq;omega
  exact wI (by omega) (by omega)
 simp only[hw,aF]
 by_cases hab:g_ vf
 ·rw[if_pos (show Int.tdiv (Int.tmod vf 16) 8=1 from hab)];have e:m3 vf vn vd=fun l=>U ((vf,vn,vd,0,0,[],[],[]),l):=by funext l;simp only[m3,if_pos hab]
  rw[e];exact Sm.ret h3 _
 ·rw[if_neg (show ¬Int.tdiv (Int.tmod vf 16) 8=1 from hab)];have e:m3 vf vn vd=fun l=>(qQ vf vn vd l).bind fun p=>U (p.1,p.2):=by funext l;simp only[m3,if_neg hab];cases qQ vf vn vd l<;>rfl
  rw[e];exact Sm.step (zas vf vn vd _ st3 h3) (k':=fun p l=>U (p,l)) fun m ⟨a,b,c⟩ st4 h4 e4=>Sm.ret h4 _
def zau {s0:List UInt8}(s:List UInt8×Int×Bool)(st:Option (List UInt8))(h:dk s0 s st):Sm (dk s0) (s8 s) (st.bind hZ):=by
 obtain⟨o0,o1,o2⟩:=s;simp only[s8,kh,bT,mE]
 refine Sm.step (CM 4 _ st h fun _ _=>by omega) (k':=iY) fun vt ⟨a,b,c⟩ st1 h1 e1=>?_
 simp only
 rw[show(if vt=[83,84,79,87]then((([]:List Cst),(0:Int),(0:Int),(0:Int),([]:List Int),([]:List Fld),([]:List Mth)),(([]:List Cst),(0:Int),(0:Int),(0:Int),([]:List Int),([]:List Fld),([]:List Mth)),a,b,c)else((([]:List Cst),(0:Int),(0:Int),(0:Int),([]:List Int),([]:List Fld),([]:List Mth)),(([]:List Cst),(0:Int),(0:Int),(0:Int),([]:List Int),([]:List Fld),([]:List Mth)),a,b,ad))=((([]:List Cst),(0:Int),(0:Int),(0:Int),([]:List Int),([]:List Fld),([]:List Mth)),(([]:List Cst),(0:Int),(0:Int),(0:Int),([]:List Int),([]:List Fld),([]:List Mth)),a,b,if ¬vt=[83,84,79,87]then ad else c)by by_cases hvt:vt=[83,84,79,87]<;>simp[hvt]];simp only
 show Sm _ _ (st1.bind fun l=>if ¬vt=[83,84,79,87]then aj else kQ l);rw[f8];refine Sm.step (zar _ _ (h1.cut _)) (k':=iX) fun vp ⟨a,b,c⟩ st2 h2 e2=>?_
 refine Sm.step (gX _ _ h2) (k':=mF vp) fun vf ⟨a,b,c⟩ st3 h3 e3=>?_
 refine Sm.step (gY _ _ h3) (k':=fL vp vf) fun vn ⟨a,b,c⟩ st4 h4 e4=>?_
 refine Sm.step (gY _ _ h4) (k':=yy vp vf vn) fun vs ⟨a,b,c⟩ st5 h5 e5=>?_
 show Sm _ _ (st5.bind fun l=>(cM 3 g2 l).bind fun p=>hY vp vf vn vs p.1 p.2);rw[jL 3 g2 (hY vp vf vn vs)];refine Sm.step (gX _ _ h5) (k':=fun n l=>if 3<n then aj else(bZ g2 n.toNat l).bind fun q=>hY vp vf vn vs q.1 q.2) fun v1 ⟨a,b,c⟩ st6 h6 e6=>?_
 simp only[mE]
 rw[show(if(3:Int)<v1 then(v1,(([]:List Cst),(0:Int),(0:Int),(0:Int),([]:List Int),([]:List Fld),([]:List Mth)),(vp,vf,vn,vs,([]:List Int),([]:List Fld),([]:List Mth)),a,b,ad)else(v1,(([]:List Cst),(0:Int),(0:Int),(0:Int),([]:List Int),([]:List Fld),([]:List Mth)),(vp,vf,vn,vs,([]:List Int),([]:List Fld),([]:List Mth)),a,b,c))=(v1,(([]:List Cst),(0:Int),(0:Int),(0:Int),([]:List Int),([]:List Fld),([]:List Mth)),(vp,vf,vn,vs,([]:List Int),([]:List Fld),([]:List Mth)),a,b,if 3<v1 then ad else c)by split<;>rfl];simp only
 rw[f8];have h7:=h6.cut (3<v1);refine Sm.loop (fun out i s=>(v1,(i:Int),(([]:List Cst),(0:Int),(0:Int),(0:Int),([]:List Int),([]:List Fld),([]:List Mth)),(vp,vf,vn,vs,out,([]:List Fld),([]:List Mth)),s)) (fun out s=>((([]:List Cst),(0:Int),(0:Int),(0:Int),([]:List Int),([]:List Fld),([]:List Mth)),(vp,vf,vn,vs,out,([]:List Fld),([]:List Mth)),s)) v1.toNat g2 h7 (k':=hY vp vf vn vs) rfl ?_ ?_ ?_
 ·intro out i ⟨a,b,c⟩ hs;have:=hs.2.2.2.2.1 rfl;simp only at this;subst this;by_cases hi:(i:Int)<v1<;>simp only[hi,ay,bm,aP,aQ,Bool.not_true,aT]
 ·intro l hl;have hv:=jM e6 hl;refine⟨fun out ⟨a,b,c⟩ l hs=>?_,fun out i ⟨a,b,c⟩ l hi ho hs=>?_⟩
  ·have hi:¬((v1.toNat:Int)<v1):=by omega
   simp only[hi,bm,aQ,aT]
  ·have hi':(i:Int)<v1:=by omega
   have hc:=(hs.2.2.2.2.2 l rfl).1;simp only at hc;subst hc;simp only[hi',ay,aP,Bool.not_false,aJ]
   have ho1:out.length+1<=9223372036854775807:=by omega
   have ho2:(out.length+1)*8<=140737488355328:=by omega
   have hwi:IntKind.wrap .i64 ((i:Int)+1)=((i+1:Nat):Int):=by rw[wI (by omega) (by omega)];omega
   show St (dk s0) _ (fun w s'=>Sum.inl ((v1,((i+1:Nat):Int),(([]:List Cst),(0:Int),(0:Int),(0:Int),([]:List Int),([]:List Fld),([]:List Mth)),(vp,vf,vn,vs,out++[w],([]:List Fld),([]:List Mth)),s'))) ((U l).bind g2);refine uu (gY _ _ hs) fun w0 ⟨a5,b5,fL⟩=>?_
   simp only[ho1,ho2,ay,ck,aC,hwi]
 ·intro out ⟨a,b,c⟩ st' hs;generalize out=fa;show Sm _ _ (st'.bind fun l=>(cM 5 iW l).bind fun p=>jN vp vf vn vs fa p.1 p.2);rw[jL 5 iW (jN vp vf vn vs fa)];refine Sm.step (gX _ _ hs) (k':=fun n l=>if 5<n then aj else(bZ iW n.toNat l).bind fun q=>jN vp vf vn vs fa q.1 q.2) fun v2 ⟨a,b,c⟩ st8 h8 e8=>?_
  simp only[mE]
  rw[show(if(5:Int)<v2 then(v2,(([]:List Cst),(0:Int),(0:Int),(0:Int),([]:List Int),([]:List Fld),([]:List Mth)),(vp,vf,vn,vs,fa,([]:List Fld),([]:List Mth)),a,b,ad)else(v2,(([]:List Cst),(0:Int),(0:Int),(0:Int),([]:List Int),([]:List Fld),([]:List Mth)),(vp,vf,vn,vs,fa,([]:List Fld),([]:List Mth)),a,b,c))=(v2,(([]:List Cst),(0:Int),(0:Int),(0:Int),([]:List Int),([]:List Fld),([]:List Mth)),(vp,vf,vn,vs,fa,([]:List Fld),([]:List Mth)),a,b,if 5<v2 then ad else c)by split<;>rfl];simp only
  rw[f8];have h9:=h8.cut (5<v2);refine Sm.loop (fun out i s=>(v2,(i:Int),(([]:List Cst),(0:Int),(0:Int),(0:Int),([]:List Int),([]:List Fld),([]:List Mth)),(vp,vf,vn,vs,fa,out,([]:List Mth)),s)) (fun out s=>((([]:List Cst),(0:Int),(0:Int),(0:Int),([]:List Int),([]:List Fld),([]:List Mth)),(vp,vf,vn,vs,fa,out,([]:List Mth)),s)) v2.toNat iW h9 (k':=jN vp vf vn vs fa) rfl ?_ ?_ ?_
  ·intro out i ⟨a,b,c⟩ hs;have:=hs.2.2.2.2.1 rfl;simp only at this;subst this;by_cases hi:(i:Int)<v2<;>simp only[hi,ay,bm,aP,aQ,Bool.not_true,aT]
  ·intro l hl;have hv:=jM e8 hl;refine⟨fun out ⟨a,b,c⟩ l hs=>?_,fun out i ⟨a,b,c⟩ l hi ho hs=>?_⟩
   ·have hi:¬((v2.toNat:Int)<v2):=by omega
    simp only[hi,bm,aQ,aT]
   ·have hi':(i:Int)<v2:=by omega
    have hc:=(hs.2.2.2.2.2 l rfl).1;simp only at hc;subst hc;simp only[hi',ay,aP,Bool.not_false,aJ]
    have ho1:out.length+1<=9223372036854775807:=by omega
    have ho2:(out.length+1)*24<=140737488355328:=by omega
    have hwi:IntKind.wrap .i64 ((i:Int)+1)=((i+1:Nat):Int):=by rw[wI (by omega) (by omega)];omega
    show St (dk s0) _ (fun w s'=>Sum.inl ((v2,((i+1:Nat):Int),(([]:List Cst),(0:Int),(0:Int),(0:Int),([]:List Int),([]:List Fld),([]:List Mth)),(vp,vf,vn,vs,fa,out++[w],([]:List Mth)),s'))) ((U l).bind iW);refine St.step (gX _ _ hs) (k':=fun p l=>(g2 l).bind fun q=>(g2 q.2).bind fun r=>U ((p,q.1,r.1),r.2)) fun w0 ⟨a5,b5,fL⟩ t0 g0=>?_
    refine St.step (gY _ _ g0) (k':=fun q l=>(g2 l).bind fun r=>U ((w0,q,r.1),r.2)) fun w1 ⟨a6,b6,gc6⟩ t1 g1=>?_
    refine St.step (gY _ _ g1) (k':=fun r l=>U ((w0,w1,r),l)) fun w2 ⟨a7,b7,hY⟩ t2 g2=>?_
    simp only[ho1,ho2,ay,ck,aC,hwi]
    exact St.ret (mk:=fun w s'=>Sum.inl ((v2,((i+1:Nat):Int),(([]:List Cst),(0:Int),(0:Int),(0:Int),([]:List Int),([]:List Fld),([]:List Mth)),(vp,vf,vn,vs,fa,out++[w],([]:List Mth)),s'))) g2 _
  ·intro out ⟨a,b,c⟩ st' hs;generalize out=fi;show Sm _ _ (st'.bind fun l=>(cM 6 f9 l).bind fun p=>U ((vp,vf,vn,vs,fa,fi,p.1),p.2));rw[jL 6 f9 fun p l=>U ((vp,vf,vn,vs,fa,fi,p),l)];refine Sm.step (gX _ _ hs) (k':=fun n l=>if 6<n then aj else(bZ f9 n.toNat l).bind fun q=>U ((vp,vf,vn,vs,fa,fi,q.1),q.2)) fun v3 ⟨a,b,c⟩ st10 h10 e10=>?_
   simp only[mE]
   rw[show(if(6:Int)<v3 then(v3,(([]:List Cst),(0:Int),(0:Int),(0:Int),([]:List Int),([]:List Fld),([]:List Mth)),(vp,vf,vn,vs,fa,fi,([]:List Mth)),a,b,ad)else(v3,(([]:List Cst),(0:Int),(0:Int),(0:Int),([]:List Int),([]:List Fld),([]:List Mth)),(vp,vf,vn,vs,fa,fi,([]:List Mth)),a,b,c))=(v3,(([]:List Cst),(0:Int),(0:Int),(0:Int),([]:List Int),([]:List Fld),([]:List Mth)),(vp,vf,vn,vs,fa,fi,([]:List Mth)),a,b,if 6<v3 then ad else c)by split<;>rfl];simp only
   rw[f8];have h11:=h10.cut (6<v3);refine Sm.loop (fun out i s=>(v3,(i:Int),(([]:List Cst),(0:Int),(0:Int),(0:Int),([]:List Int),([]:List Fld),([]:List Mth)),(vp,vf,vn,vs,fa,fi,out),s)) (fun out s=>((([]:List Cst),(0:Int),(0:Int),(0:Int),([]:List Int),([]:List Fld),([]:List Mth)),(vp,vf,vn,vs,fa,fi,out),s)) v3.toNat f9 h11 (k':=fun p l=>U ((vp,vf,vn,vs,fa,fi,p),l)) rfl ?_ ?_ ?_
   ·intro out i ⟨a,b,c⟩ hs;have:=hs.2.2.2.2.1 rfl;simp only at this;subst this;by_cases hi:(i:Int)<v3<;>simp only[hi,ay,bm,aP,aQ,Bool.not_true,aT]
   ·intro l hl;have hv:=jM e10 hl;refine⟨fun out ⟨a,b,c⟩ l hs=>?_,fun out i ⟨a,b,c⟩ l hi ho hs=>?_⟩
    ·have hi:¬((v3.toNat:Int)<v3):=by omega
     simp only[hi,bm,aQ,aT]
    ·have hi':(i:Int)<v3:=by omega
     have hc:=(hs.2.2.2.2.2 l rfl).1;simp only at hc;subst hc;simp only[hi',ay,aP,Bool.not_false,aJ]
     have ho1:out.length+1<=9223372036854775807:=by omega
     have ho2:(out.length+1)*104<=140737488355328:=by omega
     have hwi:IntKind.wrap .i64 ((i:Int)+1)=((i+1:Nat):Int):=by rw[wI (by omega) (by omega)];omega
     show St (dk s0) _ (fun w s'=>Sum.inl ((v3,((i+1:Nat):Int),(([]:List Cst),(0:Int),(0:Int),(0:Int),([]:List Int),([]:List Fld),([]:List Mth)),(vp,vf,vn,vs,fa,fi,out++[w]),s'))) ((U l).bind f9);refine uu (zat _ _ hs) fun w0 ⟨a5,b5,fL⟩=>?_
     simp only[ho1,ho2,ay,ck,aC,hwi]
   ·intro out ⟨a,b,c⟩ st' hs;exact Sm.ret hs _
end Go.Proofs.YtdpapeledldifaaGreat
end
section
namespace Go.TM
open Go.AM
section
variable {σ α β R Y Z:Type}
def nM {γ:Type}(most v:Int)(st:Option (List UInt8))(M:Int->List UInt8->Option γ):((if most<v then aj else st).bind fun l=>M v l)=(if most<v then aj else st).bind fun l=>M (if most<v then 0 else v) l:=by
 by_cases h:most<v<;>simp[h]
def nN (most v:Int){st:Option (List UInt8)}(l:List UInt8)(h:(if most<v then aj else st)=U l):(if most<v then 0 else v)=v:=by
 by_cases h':most<v
 ·rw[if_pos h']at h;cases h
 ·rw[if_neg h']
variable {Re:σ->Option (List UInt8)->Prop}
def Gn.step {Φ:Option Z->Option (β×List UInt8)->Prop}{F:Option (α×σ)}{g:List UInt8->Option (α×List UInt8)}{st:Option (List UInt8)}{k:α×σ->Option Z}{k':α->List UInt8->Option (β×List UInt8)}
  (hF:Sm Re F (st.bind g)) (hk:∀v s' st',Re s' st'->(∀l',st'=U l'->∃l,st=U l/\g l=U (v,l'))->Φ (k (v,s')) (st'.bind (k' v))) :
  Φ (ai F k) (st.bind fun l=>(g l).bind fun p=>k' p.1 p.2):=by
 have e:(st.bind fun l=>(g l).bind fun p=>k' p.1 p.2)=(st.bind g).bind fun p=>k' p.1 p.2:=by cases st<;>rfl
 rw[e];obtain⟨v,s,hr,h1,h2⟩:=hF;rw[hr,av]
 have:=hk v s _ h1 fun l' hl=>by
  cases st with
  |none=>cases hl
  | some l=>
    refine⟨l,rfl,?_⟩;cases hg:g l with
    |none=>simp[hg]at hl
    | some p=>
      simp only[bh,hg,Option.map_some,aK]at hl;subst hl;rw[h2 p.1 p.2 (by simp[hg])]
 cases hm:st.bind g with
 |none=>rw[hm]at this;exact this
 | some p=>
   rw[hm]at this h2;have e:=h2 p.1 p.2 rfl;subst e;exact this
def Gn.loop {Φ:Option Z->Option (α×List UInt8)->Prop}{X Y:Type}{f:X->Option (X⊕(Y⊕Z))}(mk:List β->Nat->σ->X)(fin:List β->σ->Y)(n:Nat)(g:List UInt8->Option (β×List UInt8)){s:σ}{st:Option (List UInt8)}(h:Re s st)
  {k:Y->Option Z} {k':List β->List UInt8->Option (α×List UInt8)} {x0:X} (hx:x0=mk [] 0 s)
  (hbad:∀out i s,Re s aj->f (mk out i s)=U (.inr (.inl (fin out s))))
  (hg:∀l,st=U l->(∀out s l,Re s (U l)->f (mk out n s)=U (.inr (.inl (fin out s)))) /\
   ∀out i s l,i<n->out.length=i->Re s (U l)->∃v s',f (mk out i s)=U (.inl (mk (out++[v]) (i+1) s'))/\Re s' ((g l).map (·.2))/\∀v' l',g l=U (v',l')->v=v')
  (hk:∀out s' st',Re s' st'->Φ (k (fin out s')) (st'.bind (k' out))) :
  Φ (bindE (aD f x0) k) (st.bind fun l=>(bZ g n l).bind fun p=>k' p.1 p.2):=by
 obtain⟨o,s',q1,q2,q3⟩:=Jy mk (fun out s=>(.inl (fin out s):Y⊕Z)) n g s st h hbad hg;rw[hx,q1,aJ];have:=hk o s' _ q2;have e:(st.bind fun l=>(bZ g n l).bind fun p=>k' p.1 p.2)=(st.bind (bZ g n)).bind fun p=>k' p.1 p.2:=by cases st<;>rfl
 rw[e];cases hm:st.bind (bZ g n)with
 |none=>rw[hm]at this;exact this
 | some p=>
   rw[hm]at this;rw[q3 p.1 p.2 hm]at this ⊢;exact this
end
end Go.TM
namespace Go.Proofs.YtdpapeledldifaaGreat
open Go Go.AM Go.TM
def dM.cut {a:List UInt8}{t:Bool}{st:Option (List UInt8)}(c:Prop)[Decidable c](h:dM (a,t) st):dM (a,if c then ad else t) (if c then aj else st):=by
 by_cases hc:c
 ·simp only[if_pos hc];exact h.bad
 ·simp only[if_neg hc];exact h
def mG (n most:Int)(a:List UInt8)(c:Bool):jj (n,most,a,c)=U ((if most<n then 0 else n),a,if most<n then ad else c):=by
 simp only[jj,aF]
 by_cases h:most<n<;>simp[h]
def JB (s:List UInt8×Bool)(st:Option (List UInt8))(h:dM s st):Sm dM (tw s) (st.bind (cM 8 eh)):=by
 obtain⟨o0,o1⟩:=s;simp only[tw]
 rw[<-Jz (cM 8 eh),jL 8 eh fun p l=>U (p,l)];refine Sm.step (gZ _ st h) (k':=fun n l=>if 8<n then aj else(bZ eh n.toNat l).bind fun q=>U (q.1,q.2)) fun v ⟨a,c⟩ st1 h1 e1=>?_
 rw[f8];rw[mG v 8 a c,av];simp only
 rw[nM 8 v st1 fun v l=>(bZ eh v.toNat l).bind fun q=>U (q.1,q.2)];have h2:=h1.cut (8<v);have zv':∀l,(if 8<v then aj else st1)=U l->(if 8<v then 0 else v)=v:=fun l=>nN 8 v l
 generalize (if 8<v then 0 else v)=v' at zv' ⊢;refine Sm.loop (fun out i s=>(out,v'-(i:Int),s)) (fun out s=>(out,s)) v'.toNat eh h2 (k':=fun p l=>U (p,l)) (by simp) ?_ ?_ ?_
 ·intro out i ⟨a,c⟩ hs;have:=hs.2.1 rfl;simp only at this;subst this;by_cases hi:(0:Int)<v'-(i:Int)<;>simp only[hi,ay,bm,aP,aQ,Bool.not_true,aT]
 ·intro l hl;have hv:=jM e1 hl;have hz:=zv' l hl;refine⟨fun out ⟨a,c⟩ l hs=>?_,fun out i ⟨a,c⟩ l hi ho hs=>?_⟩
  ·have hi:¬((0:Int)<v'-(v'.toNat:Int)):=by omega
   simp only[hi,bm,aQ,aT]
  ·have hi':(0:Int)<v'-(i:Int):=by omega
   have hw:IntKind.wrap .i64 (v'-(i:Int)-1)=v'-((i+1:Nat):Int):=by rw[wI (by omega) (by omega)];omega
   have hc:=(hs.2.2 l rfl).1;simp only at hc;subst hc;simp only[hi',ay,aP,Bool.not_false,aJ]
   have hk:Sm dM (ai (e_ (a,ag)) fun x=>match x with
     | (y4,y5,y7)=>ai (jj (y4,3,y5,y7)) fun x=>match x with
       |(z4,z5,z7)=>ah (aa (z4=3)) (ai (eU (z5,z7)) fun x=>match x with|(y8,y9,y11)=>U ((z4,y8),y9,y11)) (U ((z4,0),z5,z7))) ((U l).bind eh):=by
    refine Sm.step (gZ _ _ hs) (k':=fun p l=>if p=3 then(g2 l).bind fun q=>U ((3,q.1),q.2)else if 3<p then aj else U ((p,0),l)) fun w ⟨a2,kQ⟩ st2 h2 e2=>?_
    simp only[mG,aF]
    by_cases hw:w=3
    ·subst hw;simp only[↓reduceIte,av,bG]
     exact Sm.step (g9 _ st2 h2) (k':=fun q l=>U ((3,q),l)) fun n ⟨a3,iX⟩ st3 h3 e3=>Sm.ret h3 _
    ·simp only[hw,↓reduceIte]
     rw[f8];by_cases h3:3<w
     ·simp only[h3,↓reduceIte,av,show ¬((0:Int)=3)by omega]
      exact⟨_,_,rfl,h2.bad,fun _ _ h=>by cases h⟩
     ·simp only[h3,hw,↓reduceIte,av]
      exact Sm.ret h2 _
   refine hk.one (mk:=fun w s=>(out++[w],v'-((i+1:Nat):Int),s)) fun w s' hr=>?_
   have ho1:out.length+1<=9223372036854775807:=by omega
   have ho2:(out.length+1)*16<=140737488355328:=by omega
   rcases h221:e_ (a,ag)with _|⟨y4,y5,y7⟩
   ·rw[h221]at hr;cases hr
   ·rw[h221]at hr;simp only[av]at hr ⊢;rcases h58:jj (y4,3,y5,y7)with _|⟨z4,z5,z7⟩
    ·rw[h58]at hr;cases hr
    ·rw[h58]at hr;simp only[av,aF,eg]at hr ⊢;by_cases hy:z4=3
     ·subst hy;simp only[↓reduceIte,kh]at hr ⊢;rcases h222:eU (z5,z7)with _|⟨y8,y9,y11⟩
      ·rw[h222]at hr;cases hr
      ·rw[h222]at hr;simp only[av,aK,bH]at hr ⊢;obtain⟨rfl,rfl⟩:=hr;simp only[ho1,ho2,ay,ck,aC,aJ,hw]
     ·simp only[hy,↓reduceIte]at hr ⊢;simp only[aK,bH]at hr ⊢;obtain⟨rfl,rfl⟩:=hr;simp only[ho1,ho2,ay,ck,aC,aJ,hw]
 ·intro out ⟨a,c⟩ st' hs;exact Sm.ret hs _
def JC (n:Fin 256):(!aa (dA .i64 (n.val:Int) 8=0))=aa (g_ (n.val:Int)):=by
 revert n;decide +kernel
def i62 (s:List UInt8×Bool)(st:Option (List UInt8))(h:dM s st):Sm dM (xH s) (st.bind f9):=by
 obtain⟨o0,o1⟩:=s;simp only[xH]
 refine Sm.step (gZ _ st h) (k':=m1) fun vf ⟨a,c⟩ st1 h1 e1=>?_
 refine Sm.step (g9 _ st1 h1) (k':=m2 vf) fun vn ⟨a,c⟩ st2 h2 e2=>?_
 refine Sm.step (g9 _ st2 h2) (k':=m3 vf vn) fun vd ⟨a,c⟩ st3 h3 e3=>?_
 have hab:∀l,st3=U l->(!aa (dA .i64 vf 8=0))=aa (g_ vf):=by
  intro l hl;obtain⟨l2,q2,_⟩:=e3 l hl;obtain⟨l1,q1,_⟩:=e2 l2 q2;obtain⟨_,_,hg⟩:=e1 l1 q1;have:=iS hg;have:=JC ⟨vf.toNat,by omega⟩;simpa[show((vf.toNat:Nat):Int)=vf by omega]using this
 simp only[kf,av]
 cases hy:(!aa (dA .i64 vf 8=0))with
 | true=>
   rw[hy]at hab;simp only[aP]
   have e:st3.bind (m3 vf vn vd)=st3.bind fun l=>U ((vf,vn,vd,0,0,[],[],[]),l):=by
    cases st3 with
    |none=>rfl
    |some l=>have:=hab l rfl;have:g_ vf:=by simpa using this.symm
             simp only[bh,m3,if_pos this]
   rw[e];exact Sm.ret h3 _
 |false=>
 rw[hy]at hab;simp only[aQ]
 have e:st3.bind (m3 vf vn vd)=st3.bind (qQ vf vn vd):=by
  cases st3 with
  |none=>rfl
  |some l=>have:=hab l rfl;have:¬g_ vf:=by simpa using this.symm
           simp only[bh,m3,if_neg this]
 rw[e];clear hab e;refine Sm.step (gZ _ st3 h3) (k':=b3 vf vn vd) fun vs ⟨a,c⟩ st1 h1 e1=>?_
 refine Sm.step (gZ _ st1 h1) (k':=b4 vf vn vd vs) fun vl ⟨a,c⟩ st2 h2 e2=>?_
 refine Sm.step (g9 _ st2 h2) (k':=b5 vf vn vd vs vl) fun v ⟨a,c⟩ st3 h3 e3=>?_
 show Sm _ _ (st3.bind fun l=>if 120<v then aj else(gT v l).bind fun p=>b6 vf vn vd vs vl p.1 p.2);rw[f8];rw[mG v 120 a c,av];simp only
 rw[nM 120 v st3 fun v l=>(gT v l).bind fun p=>b6 vf vn vd vs vl p.1 p.2];have h4:=h3.cut (120<v);have zv':∀l,(if 120<v then aj else st3)=U l->(if 120<v then 0 else v)=v:=fun l=>nN 120 v l
 generalize (if 120<v then 0 else v)=v' at zv' ⊢;refine Sm.step (yx v' _ _ h4 fun l hl=>?_) (k':=b6 vf vn vd vs vl) fun vc ⟨a,c⟩ st4 h5 e4=>?_
 ·rw[zv' l hl];split at hl
  ·cases hl
  ·obtain⟨_,_,hg⟩:=e3 l hl;exact(CL hg).1
 show Sm _ _ (st4.bind fun l=>(cM 3 iU l).bind fun p=>b7 vf vn vd vs vl vc p.1 p.2);rw[jL 3 iU (b7 vf vn vd vs vl vc)];refine Sm.step (gZ _ st4 h5) (k':=fun n l=>if 3<n then aj else(bZ iU n.toNat l).bind fun q=>b7 vf vn vd vs vl vc q.1 q.2) fun v2 ⟨a,c⟩ st5 h6 e5=>?_
 rw[f8];rw[mG v2 3 a c,av];simp only
 rw[nM 3 v2 st5 fun v l=>(bZ iU v.toNat l).bind fun q=>b7 vf vn vd vs vl vc q.1 q.2];have h7:=h6.cut (3<v2);have zv2':∀l,(if 3<v2 then aj else st5)=U l->(if 3<v2 then 0 else v2)=v2:=fun l=>nN 3 v2 l
 generalize (if 3<v2 then 0 else v2)=v2' at zv2' ⊢;refine Sm.loop (fun out i s=>(v2'-(i:Int),((0:Int),(0:Int),(0:Int),(0:Int),(0:Int),([]:List UInt8),([]:List Trp),([]:List Frm)),(vf,vn,vd,vs,vl,vc,out,([]:List Frm)),s)) (fun out s=>(((0:Int),(0:Int),(0:Int),(0:Int),(0:Int),([]:List UInt8),([]:List Trp),([]:List Frm)),(vf,vn,vd,vs,vl,vc,out,([]:List Frm)),s)) v2'.toNat iU h7 (k':=b7 vf vn vd vs vl vc) (by simp) ?_ ?_ ?_
 ·intro out i ⟨a,c⟩ hs;have:=hs.2.1 rfl;simp only at this;subst this;by_cases hi:(0:Int)<v2'-(i:Int)<;>simp only[hi,ay,bm,aP,aQ,Bool.not_true,aT]
 ·intro l hl;have hv:=jM e5 hl;have hz:=zv2' l hl;refine⟨fun out ⟨a,c⟩ l hs=>?_,fun out i ⟨a,c⟩ l hi ho hs=>?_⟩
  ·have hi:¬((0:Int)<v2'-(v2'.toNat:Int)):=by omega
   simp only[hi,bm,aQ,aT]
  ·have hi':(0:Int)<v2'-(i:Int):=by omega
   have hw:IntKind.wrap .i64 (v2'-(i:Int)-1)=v2'-((i+1:Nat):Int):=by rw[wI (by omega) (by omega)];omega
   have hc:=(hs.2.2 l rfl).1;simp only at hc;subst hc;simp only[hi',ay,aP,Bool.not_false,aJ]
   have ho1:out.length+1<=9223372036854775807:=by omega
   have ho2:(out.length+1)*32<=140737488355328:=by omega
   show St dM _ (fun w s'=>Sum.inl ((v2'-((i+1:Nat):Int),((0:Int),(0:Int),(0:Int),(0:Int),(0:Int),([]:List UInt8),([]:List Trp),([]:List Frm)),(vf,vn,vd,vs,vl,vc,out++[w],([]:List Frm)),s'))) ((U l).bind iU);refine St.step (g9 _ _ hs) (k':=fun p l=>(g2 l).bind fun q=>(g2 q.2).bind fun r=>(g2 r.2).bind fun s=>U ((p,q.1,r.1,s.1),s.2)) fun w0 ⟨a5,fL⟩ t0 g0=>?_
   refine St.step (g9 _ _ g0) (k':=fun q l=>(g2 l).bind fun r=>(g2 r.2).bind fun s=>U ((w0,q,r.1,s.1),s.2)) fun w1 ⟨a6,gc6⟩ t1 g1=>?_
   refine St.step (g9 _ _ g1) (k':=fun r l=>(g2 l).bind fun s=>U ((w0,w1,r,s.1),s.2)) fun w2 ⟨a7,hY⟩ t2 g2=>?_
   refine St.step (g9 _ _ g2) (k':=fun s l=>U ((w0,w1,w2,s),l)) fun w3 ⟨a8,jN⟩ t3 g3=>?_
   simp only[ho1,ho2,ay,ck,aC,hw]
   exact St.ret (mk:=fun w s'=>Sum.inl ((v2'-((i+1:Nat):Int),((0:Int),(0:Int),(0:Int),(0:Int),(0:Int),([]:List UInt8),([]:List Trp),([]:List Frm)),(vf,vn,vd,vs,vl,vc,out++[w],([]:List Frm)),s'))) g3 _
 ·intro out ⟨a,c⟩ st' hs;generalize out=tr;show Sm _ _ (st'.bind fun l=>(cM 8 iV l).bind fun p=>U ((vf,vn,vd,vs,vl,vc,tr,p.1),p.2));rw[jL 8 iV fun p l=>U ((vf,vn,vd,vs,vl,vc,tr,p),l)];refine Sm.step (gZ _ _ hs) (k':=fun n l=>if 8<n then aj else(bZ iV n.toNat l).bind fun q=>U ((vf,vn,vd,vs,vl,vc,tr,q.1),q.2)) fun v3 ⟨a,c⟩ st6 h8 e6=>?_
  rw[f8];rw[mG v3 8 a c,av];simp only
  rw[nM 8 v3 st6 fun v l=>(bZ iV v.toNat l).bind fun q=>U ((vf,vn,vd,vs,vl,vc,tr,q.1),q.2)];have h9:=h8.cut (8<v3);have zv3':∀l,(if 8<v3 then aj else st6)=U l->(if 8<v3 then 0 else v3)=v3:=fun l=>nN 8 v3 l
  generalize (if 8<v3 then 0 else v3)=v3' at zv3' ⊢;refine Sm.loop (fun out i s=>(v3'-(i:Int),((0:Int),(0:Int),(0:Int),(0:Int),(0:Int),([]:List UInt8),([]:List Trp),([]:List Frm)),(vf,vn,vd,vs,vl,vc,tr,out),s)) (fun out s=>(((0:Int),(0:Int),(0:Int),(0:Int),(0:Int),([]:List UInt8),([]:List Trp),([]:List Frm)),(vf,vn,vd,vs,vl,vc,tr,out),s)) v3'.toNat iV h9 (k':=fun p l=>U ((vf,vn,vd,vs,vl,vc,tr,p),l)) (by simp) ?_ ?_ ?_
  ·intro out i ⟨a,c⟩ hs;have:=hs.2.1 rfl;simp only at this;subst this;by_cases hi:(0:Int)<v3'-(i:Int)<;>simp only[hi,ay,bm,aP,aQ,Bool.not_true,aT]
  ·intro l hl;have hv:=jM e6 hl;have hz:=zv3' l hl;refine⟨fun out ⟨a,c⟩ l hs=>?_,fun out i ⟨a,c⟩ l hi ho hs=>?_⟩
   ·have hi:¬((0:Int)<v3'-(v3'.toNat:Int)):=by omega
    simp only[hi,bm,aQ,aT]
   ·have hi':(0:Int)<v3'-(i:Int):=by omega
    have hw:IntKind.wrap .i64 (v3'-(i:Int)-1)=v3'-((i+1:Nat):Int):=by rw[wI (by omega) (by omega)];omega
    have hc:=(hs.2.2 l rfl).1;simp only at hc;subst hc;simp only[hi',ay,aP,Bool.not_false,aJ]
    have ho1:out.length+1<=9223372036854775807:=by omega
    have ho2:(out.length+1)*56<=140737488355328:=by omega
    show St dM _ (fun w s'=>Sum.inl ((v3'-((i+1:Nat):Int),((0:Int),(0:Int),(0:Int),(0:Int),(0:Int),([]:List UInt8),([]:List Trp),([]:List Frm)),(vf,vn,vd,vs,vl,vc,tr,out++[w]),s'))) ((U l).bind iV);refine St.step (g9 _ _ hs) (k':=fun p l=>(cM 8 eh l).bind fun q=>(cM 8 eh q.2).bind fun r=>U ((p,q.1,r.1),r.2)) fun w0 ⟨a5,fL⟩ t0 g0=>?_
    refine St.step (JB _ _ g0) (k':=fun q l=>(cM 8 eh l).bind fun r=>U ((w0,q,r.1),r.2)) fun w1 ⟨a6,gc6⟩ t1 g1=>?_
    refine St.step (JB _ _ g1) (k':=fun r l=>U ((w0,w1,r),l)) fun w2 ⟨a7,hY⟩ t2 g2=>?_
    simp only[ho1,ho2,ay,ck,aC,hw]
    exact St.ret (mk:=fun w s'=>Sum.inl ((v3'-((i+1:Nat):Int),((0:Int),(0:Int),(0:Int),(0:Int),(0:Int),([]:List UInt8),([]:List Trp),([]:List Frm)),(vf,vn,vd,vs,vl,vc,tr,out++[w]),s'))) g2 _
  ·intro out ⟨a,c⟩ st' hs;exact Sm.ret hs _
def f_ (q:Option (Bool×Cls))(m:Option (Cls×List UInt8)):Prop:=q=U (match m with
 |some (c,[])=>(ad,c)
 |_=>(ag,(([]:List Cst),(0:Int),(0:Int),(0:Int),([]:List Int),([]:List Fld),([]:List Mth))))
def i17 (l:List UInt8)(hl:l.length<=900):f_ (tz l) (hZ l):=by
 have h:dM (l,ag) (U l):=⟨hl,(fun h=>by cases h),fun l' h=>⟨rfl,by simp only[aK]at h;exact h.symm⟩⟩
 have hn:¬(900:Int)<(l.length:Int):=by omega
 simp only[tz,hn,bm,aQ]
 show f_ _ ((U l).bind hZ);refine Gn.step (Φ:=f_) (yx 4 _ _ h fun _ _=>by omega) (k':=iY) fun vt ⟨a,c⟩ st1 h1 e1=>?_
 simp only
 rw[bT,aF];by_cases hvt:vt=[83,84,79,87]
 ·rw[if_pos hvt];have e:iY vt=kQ:=by funext l;simp only[iY,hvt,not_true,if_false]
  rw[e];show f_ _ (st1.bind fun l=>(cM 60 gw l).bind fun p=>iX p.1 p.2);rw[jL 60 gw iX];refine Gn.step (Φ:=f_) (gZ _ st1 h1) (k':=fun n l=>if 60<n then aj else(bZ gw n.toNat l).bind fun q=>iX q.1 q.2) fun v0 ⟨a,c⟩ st2 h2 e2=>?_
  rw[f8];rw[mG v0 60 a c,av];simp only
  rw[nM 60 v0 st2 fun v l=>(bZ gw v.toNat l).bind fun q=>iX q.1 q.2];have h3:=h2.cut (60<v0);have zv0':∀l,(if 60<v0 then aj else st2)=U l->(if 60<v0 then 0 else v0)=v0:=fun l=>nN 60 v0 l
  generalize (if 60<v0 then 0 else v0)=v0' at zv0' ⊢;refine Gn.loop (Φ:=f_) (fun out i s=>(v0'-(i:Int),(([]:List Cst),(0:Int),(0:Int),(0:Int),([]:List Int),([]:List Fld),([]:List Mth)),(out,(0:Int),(0:Int),(0:Int),([]:List Int),([]:List Fld),([]:List Mth)),s)) (fun out s=>((([]:List Cst),(0:Int),(0:Int),(0:Int),([]:List Int),([]:List Fld),([]:List Mth)),(out,(0:Int),(0:Int),(0:Int),([]:List Int),([]:List Fld),([]:List Mth)),s)) v0'.toNat gw h3 (k':=iX) (by simp) ?_ ?_ ?_
  ·intro out i ⟨a,c⟩ hs;have:=hs.2.1 rfl;simp only at this;subst this;by_cases hi:(0:Int)<v0'-(i:Int)<;>simp only[hi,ay,bm,aP,aQ,Bool.not_true,aT]
  ·intro l hl;have hv:=jM e2 hl;have hz:=zv0' l hl;refine⟨fun out ⟨a,c⟩ l hs=>?_,fun out i ⟨a,c⟩ l hi ho hs=>?_⟩
   ·have hi:¬((0:Int)<v0'-(v0'.toNat:Int)):=by omega
    simp only[hi,bm,aQ,aT]
   ·have hi':(0:Int)<v0'-(i:Int):=by omega
    have hw:IntKind.wrap .i64 (v0'-(i:Int)-1)=v0'-((i+1:Nat):Int):=by rw[wI (by omega) (by omega)];omega
    have hc:=(hs.2.2 l rfl).1;simp only at hc;subst hc;simp only[hi',ay,aP,Bool.not_false,aJ]
    have ho1:out.length+1<=9223372036854775807:=by omega
    have ho2:(out.length+1)*40<=140737488355328:=by omega
    show St dM _ (fun w s'=>Sum.inl ((v0'-((i+1:Nat):Int),(([]:List Cst),(0:Int),(0:Int),(0:Int),([]:List Int),([]:List Fld),([]:List Mth)),(out++[w],(0:Int),(0:Int),(0:Int),([]:List Int),([]:List Fld),([]:List Mth)),s'))) ((U l).bind gw);refine uu (i60 _ _ hs) fun w0 ⟨a5,fL⟩=>?_
    simp only[ho1,ho2,ay,ck,aC,hw]
  ·intro out ⟨a,c⟩ st' hs;generalize out=vp;refine Gn.step (Φ:=f_) (gZ _ _ hs) (k':=mF vp) fun vf ⟨a,c⟩ st3 h4 e3=>?_
   refine Gn.step (Φ:=f_) (g9 _ _ h4) (k':=fL vp vf) fun vn ⟨a,c⟩ st4 h5 e4=>?_
   refine Gn.step (Φ:=f_) (g9 _ _ h5) (k':=yy vp vf vn) fun vs ⟨a,c⟩ st5 h6 e5=>?_
   show f_ _ (st5.bind fun l=>(cM 3 g2 l).bind fun p=>hY vp vf vn vs p.1 p.2);rw[jL 3 g2 (hY vp vf vn vs)];refine Gn.step (Φ:=f_) (gZ _ _ h6) (k':=fun n l=>if 3<n then aj else(bZ g2 n.toNat l).bind fun q=>hY vp vf vn vs q.1 q.2) fun v1 ⟨a,c⟩ st6 h7 e6=>?_
   rw[f8];rw[mG v1 3 a c,av];simp only
   rw[nM 3 v1 st6 fun v l=>(bZ g2 v.toNat l).bind fun q=>hY vp vf vn vs q.1 q.2];have h8:=h7.cut (3<v1);have zv1':∀l,(if 3<v1 then aj else st6)=U l->(if 3<v1 then 0 else v1)=v1:=fun l=>nN 3 v1 l
   generalize (if 3<v1 then 0 else v1)=v1' at zv1' ⊢;refine Gn.loop (Φ:=f_) (fun out i s=>(v1'-(i:Int),(([]:List Cst),(0:Int),(0:Int),(0:Int),([]:List Int),([]:List Fld),([]:List Mth)),(vp,vf,vn,vs,out,([]:List Fld),([]:List Mth)),s)) (fun out s=>((([]:List Cst),(0:Int),(0:Int),(0:Int),([]:List Int),([]:List Fld),([]:List Mth)),(vp,vf,vn,vs,out,([]:List Fld),([]:List Mth)),s)) v1'.toNat g2 h8 (k':=hY vp vf vn vs) (by simp) ?_ ?_ ?_
   ·intro out i ⟨a,c⟩ hs;have:=hs.2.1 rfl;simp only at this;subst this;by_cases hi:(0:Int)<v1'-(i:Int)<;>simp only[hi,ay,bm,aP,aQ,Bool.not_true,aT]
   ·intro l hl;have hv:=jM e6 hl;have hz:=zv1' l hl;refine⟨fun out ⟨a,c⟩ l hs=>?_,fun out i ⟨a,c⟩ l hi ho hs=>?_⟩
    ·have hi:¬((0:Int)<v1'-(v1'.toNat:Int)):=by omega
     simp only[hi,bm,aQ,aT]
    ·have hi':(0:Int)<v1'-(i:Int):=by omega
     have hw:IntKind.wrap .i64 (v1'-(i:Int)-1)=v1'-((i+1:Nat):Int):=by rw[wI (by omega) (by omega)];omega
     have hc:=(hs.2.2 l rfl).1;simp only at hc;subst hc;simp only[hi',ay,aP,Bool.not_false,aJ]
     have ho1:out.length+1<=9223372036854775807:=by omega
     have ho2:(out.length+1)*8<=140737488355328:=by omega
     show St dM _ (fun w s'=>Sum.inl ((v1'-((i+1:Nat):Int),(([]:List Cst),(0:Int),(0:Int),(0:Int),([]:List Int),([]:List Fld),([]:List Mth)),(vp,vf,vn,vs,out++[w],([]:List Fld),([]:List Mth)),s'))) ((U l).bind g2);refine uu (g9 _ _ hs) fun w0 ⟨a5,fL⟩=>?_
     simp only[ho1,ho2,ay,ck,aC,hw]
   ·intro out ⟨a,c⟩ st' hs;generalize out=fa;show f_ _ (st'.bind fun l=>(cM 5 iW l).bind fun p=>jN vp vf vn vs fa p.1 p.2);rw[jL 5 iW (jN vp vf vn vs fa)];refine Gn.step (Φ:=f_) (gZ _ _ hs) (k':=fun n l=>if 5<n then aj else(bZ iW n.toNat l).bind fun q=>jN vp vf vn vs fa q.1 q.2) fun v2 ⟨a,c⟩ st8 h9 e8=>?_
    rw[f8];rw[mG v2 5 a c,av];simp only
    rw[nM 5 v2 st8 fun v l=>(bZ iW v.toNat l).bind fun q=>jN vp vf vn vs fa q.1 q.2];have h10:=h9.cut (5<v2);have zv2':∀l,(if 5<v2 then aj else st8)=U l->(if 5<v2 then 0 else v2)=v2:=fun l=>nN 5 v2 l
    generalize (if 5<v2 then 0 else v2)=v2' at zv2' ⊢;refine Gn.loop (Φ:=f_) (fun out i s=>(v2'-(i:Int),(([]:List Cst),(0:Int),(0:Int),(0:Int),([]:List Int),([]:List Fld),([]:List Mth)),(vp,vf,vn,vs,fa,out,([]:List Mth)),s)) (fun out s=>((([]:List Cst),(0:Int),(0:Int),(0:Int),([]:List Int),([]:List Fld),([]:List Mth)),(vp,vf,vn,vs,fa,out,([]:List Mth)),s)) v2'.toNat iW h10 (k':=jN vp vf vn vs fa) (by simp) ?_ ?_ ?_
    ·intro out i ⟨a,c⟩ hs;have:=hs.2.1 rfl;simp only at this;subst this;by_cases hi:(0:Int)<v2'-(i:Int)<;>simp only[hi,ay,bm,aP,aQ,Bool.not_true,aT]
    ·intro l hl;have hv:=jM e8 hl;have hz:=zv2' l hl;refine⟨fun out ⟨a,c⟩ l hs=>?_,fun out i ⟨a,c⟩ l hi ho hs=>?_⟩
     ·have hi:¬((0:Int)<v2'-(v2'.toNat:Int)):=by omega
      simp only[hi,bm,aQ,aT]
     ·have hi':(0:Int)<v2'-(i:Int):=by omega
      have hw:IntKind.wrap .i64 (v2'-(i:Int)-1)=v2'-((i+1:Nat):Int):=by rw[wI (by omega) (by omega)];omega
      have hc:=(hs.2.2 l rfl).1;simp only at hc;subst hc;simp only[hi',ay,aP,Bool.not_false,aJ]
      have ho1:out.length+1<=9223372036854775807:=by omega
      have ho2:(out.length+1)*24<=140737488355328:=by omega
      show St dM _ (fun w s'=>Sum.inl ((v2'-((i+1:Nat):Int),(([]:List Cst),(0:Int),(0:Int),(0:Int),([]:List Int),([]:List Fld),([]:List Mth)),(vp,vf,vn,vs,fa,out++[w],([]:List Mth)),s'))) ((U l).bind iW);refine St.step (gZ _ _ hs) (k':=fun p l=>(g2 l).bind fun q=>(g2 q.2).bind fun r=>U ((p,q.1,r.1),r.2)) fun w0 ⟨a5,fL⟩ t0 g0=>?_
      refine St.step (g9 _ _ g0) (k':=fun q l=>(g2 l).bind fun r=>U ((w0,q,r.1),r.2)) fun w1 ⟨a6,gc6⟩ t1 g1=>?_
      refine St.step (g9 _ _ g1) (k':=fun r l=>U ((w0,w1,r),l)) fun w2 ⟨a7,hY⟩ t2 g2=>?_
      simp only[ho1,ho2,ay,ck,aC,hw]
      exact St.ret (mk:=fun w s'=>Sum.inl ((v2'-((i+1:Nat):Int),(([]:List Cst),(0:Int),(0:Int),(0:Int),([]:List Int),([]:List Fld),([]:List Mth)),(vp,vf,vn,vs,fa,out++[w],([]:List Mth)),s'))) g2 _
    ·intro out ⟨a,c⟩ st' hs;generalize out=fi;show f_ _ (st'.bind fun l=>(cM 6 f9 l).bind fun p=>U ((vp,vf,vn,vs,fa,fi,p.1),p.2));rw[jL 6 f9 fun p l=>U ((vp,vf,vn,vs,fa,fi,p),l)];refine Gn.step (Φ:=f_) (gZ _ _ hs) (k':=fun n l=>if 6<n then aj else(bZ f9 n.toNat l).bind fun q=>U ((vp,vf,vn,vs,fa,fi,q.1),q.2)) fun v3 ⟨a,c⟩ st9 h11 e9=>?_
     rw[f8];rw[mG v3 6 a c,av];simp only
     rw[nM 6 v3 st9 fun v l=>(bZ f9 v.toNat l).bind fun q=>U ((vp,vf,vn,vs,fa,fi,q.1),q.2)];have h12:=h11.cut (6<v3);have zv3':∀l,(if 6<v3 then aj else st9)=U l->(if 6<v3 then 0 else v3)=v3:=fun l=>nN 6 v3 l
     generalize (if 6<v3 then 0 else v3)=v3' at zv3' ⊢;refine Gn.loop (Φ:=f_) (fun out i s=>(v3'-(i:Int),(([]:List Cst),(0:Int),(0:Int),(0:Int),([]:List Int),([]:List Fld),([]:List Mth)),(vp,vf,vn,vs,fa,fi,out),s)) (fun out s=>((([]:List Cst),(0:Int),(0:Int),(0:Int),([]:List Int),([]:List Fld),([]:List Mth)),(vp,vf,vn,vs,fa,fi,out),s)) v3'.toNat f9 h12 (k':=fun p l=>U ((vp,vf,vn,vs,fa,fi,p),l)) (by simp) ?_ ?_ ?_
     ·intro out i ⟨a,c⟩ hs;have:=hs.2.1 rfl;simp only at this;subst this;by_cases hi:(0:Int)<v3'-(i:Int)<;>simp only[hi,ay,bm,aP,aQ,Bool.not_true,aT]
     ·intro l hl;have hv:=jM e9 hl;have hz:=zv3' l hl;refine⟨fun out ⟨a,c⟩ l hs=>?_,fun out i ⟨a,c⟩ l hi ho hs=>?_⟩
      ·have hi:¬((0:Int)<v3'-(v3'.toNat:Int)):=by omega
       simp only[hi,bm,aQ,aT]
      ·have hi':(0:Int)<v3'-(i:Int):=by omega
       have hw:IntKind.wrap .i64 (v3'-(i:Int)-1)=v3'-((i+1:Nat):Int):=by rw[wI (by omega) (by omega)];omega
       have hc:=(hs.2.2 l rfl).1;simp only at hc;subst hc;simp only[hi',ay,aP,Bool.not_false,aJ]
       have ho1:out.length+1<=9223372036854775807:=by omega
       have ho2:(out.length+1)*104<=140737488355328:=by omega
       show St dM _ (fun w s'=>Sum.inl ((v3'-((i+1:Nat):Int),(([]:List Cst),(0:Int),(0:Int),(0:Int),([]:List Int),([]:List Fld),([]:List Mth)),(vp,vf,vn,vs,fa,fi,out++[w]),s'))) ((U l).bind f9);refine uu (i62 _ _ hs) fun w0 ⟨a5,fL⟩=>?_
       simp only[ho1,ho2,ay,ck,aC,hw]
     ·intro out ⟨a,c⟩ st' hs;cases st' with
      | none=>
        have:=hs.2.1 rfl;simp only at this;subst this;rfl
      | some l' =>
        obtain⟨hc,rfl⟩:=hs.2.2 l' rfl;simp only at hc;subst hc;simp only[aQ,bT,aF,bh]
        by_cases hr:l'=[]
        ·subst hr;rfl
        ·rw[if_neg hr];cases l' with
         |nil=>exact absurd rfl hr
         |cons x y=>rfl
 ·rw[if_neg hvt];have e:st1.bind (iY vt)=aj:=by cases st1<;>simp[iY,hvt]
  rw[e];rfl
end Go.Proofs.YtdpapeledldifaaGreat
end
section
namespace Go.TM
open Go.AM
section
variable {α X Y:Type}
def CN {f:X->Option (X⊕Y)}(mk:List UInt8->Nat->X)(fin:List UInt8->Y)(l:List α)(p:α->List UInt8)(K:Nat)(hK:∀ x∈l,(p x).length<=K)
  (b:Nat) (hend:∀out,f (mk out l.length)=U (.inr (fin out)))
  (hstep:∀out i (h:i<l.length),out.length<=b+i*K->f (mk out i)=U (.inl (mk (out++p l[i]) (i+1)))) :
  ∀(out:List UInt8),out.length<=b->aD f (mk out 0)=U (fin (out++(l.map p).flatten))/\(out++(l.map p).flatten).length<=b+l.length*K:=by
 have key:∀(m i:Nat) (out:List UInt8),i+m=l.length->out.length<=b+i*K->aD f (mk out i)=U (fin (out++((l.drop i).map p).flatten))/\(out++((l.drop i).map p).flatten).length<=b+l.length*K:=by
  intro m
  induction m with
  | zero=>
    intro i out hi ho;have:i=l.length:=by omega
    subst this;rw[eJ,hend,List.drop_eq_nil_of_le (bI _)];exact⟨by simp,by simpa using ho⟩
  | succ m ih=>
    intro i out hi ho;have h:i<l.length:=by omega
    rw[eJ,hstep out i h ho];have hk:=hK l[i] (List.getElem_mem h);have e:(i+1)*K=i*K+K:=by rw[Nat.add_mul];omega
    have:=ih (i+1) (out++p l[i]) (by omega) (by rw[aR,e];omega);rw[kg h,bL,List.flatten_cons,<-b_];exact this
 intro out ho;have:=key l.length 0 out (by omega) (by omega);simpa using this
def ki {R:Type}{f:X->Option (X⊕(Y⊕R))}(mk:List UInt8->Nat->X)(fin:List UInt8->Y)(l:List α)(p:α->List UInt8)(K:Nat)(hK:∀ x∈l,(p x).length<=K)
  (b:Nat) {out:List UInt8} {k:Y->Option R} {x0:X} {r:Option R} (hx:x0=mk out 0) (ho:out.length<=b) (hend:∀out,f (mk out l.length)=U (.inr (.inl (fin out))))
  (hstep:∀out i (h:i<l.length),out.length<=b+i*K->f (mk out i)=U (.inl (mk (out++p l[i]) (i+1))))
  (hk:(out++(l.map p).flatten).length<=b+l.length*K->k (fin (out++(l.map p).flatten))=r):bindE (aD f x0) k=r:=by
 obtain⟨h1,h2⟩:=CN mk (fun out=>(.inl (fin out):Y⊕R)) l p K hK b hend hstep out ho;rw[hx,h1,aJ];exact hk h2
def qR (l:List α)(p:α->List UInt8)(K:Nat)(hK:∀ x∈l,(p x).length<=K):((l.map p).flatten).length<=l.length*K:=by
 induction l with
 |nil=>simp
 | cons x l ih=>
   have:=ih fun x hx=>hK x (by simp[hx])
   have:=hK x (by simp);simp only[bL,List.flatten_cons,aR,bD,Nat.add_mul]
   omega
end
end Go.TM
namespace Go.Proofs.YtdpapeledldifaaGreat
open Go Go.AM Go.TM
def w1 (n:Int):List UInt8:=[UInt8.ofNat (IntKind.wrap .u8 n).toNat]
def tS (n:Int):List UInt8:=w1 (IntKind.wrap .i64 (Int.tdiv n 256))++w1 (Int.tmod n 256)
def tI (n:Int):List UInt8:=w1 (Int.fdiv n 256)++w1 n
def yz (n:Int):0<=IntKind.wrap .u8 n/\IntKind.wrap .u8 n<=255:=by
 have h:IntKind.wrap .u8 n=n % 256:=by
  simp[IntKind.wrap,IntKind.bits,IntKind.signed]
 rw[h];omega
@[simp] def cf (n:Int):(w1 n).length=1:=by unfold w1;simp
@[simp] def cX (n:Int):(tS n).length=2:=by unfold tS;simp
@[simp] def cY (n:Int):(tI n).length=2:=by unfold tI;simp
def tY (n:Int):ew n=U (w1 n):=by
 have:=yz n;simp only[ew]
 rw[mB,cd this.1,cd this.2];rfl
def CO (n:Int):ef n=U (w1 n):=tY n
def yA (n:Int):eP n=U (tS n):=by
 have h1:=yz (IntKind.wrap .i64 (Int.tdiv n 256));have h2:=yz (Int.tmod n 256);simp only[eP]
 rw[mB,cd h1.1,cd h1.2,mB,cd h2.1,cd h2.2];rfl
def JD (n:Int):eR n=U (tI n):=by
 simp only[eR,CO,av]
 rw[cd (by simp)];rfl
def h_ (two:Int->List UInt8)(c:Cst):List UInt8:=w1 c.1++if c.1=1 then w1 c.2.1.length++c.2.1 else if c.1=2 then two c.2.2.1 else two c.2.2.1++two c.2.2.2
def jk (two:Int->List UInt8)(k:Knd):List UInt8:=w1 k.1++if k.1=3 then two k.2 else []
def kR (two:Int->List UInt8)(l:List Knd):List UInt8:=w1 l.length++(l.map (jk two)).flatten
def ia (two:Int->List UInt8)(t:Trp):List UInt8:=two t.1++(two t.2.1++(two t.2.2.1++two t.2.2.2))
def ga (two:Int->List UInt8)(t:Frm):List UInt8:=two t.1++(kR two t.2.1++kR two t.2.2)
def kj (two:Int->List UInt8)(t:Fld):List UInt8:=w1 t.1++(two t.2.1++two t.2.2)
def dH (two:Int->List UInt8)(ab:Int->Bool)(m:Mth):List UInt8:=w1 m.1++(two m.2.1++(two m.2.2.1++if ab m.1=ad then []else
 w1 m.2.2.2.1++(w1 m.2.2.2.2.1++(two m.2.2.2.2.2.1.length++(m.2.2.2.2.2.1++(w1 m.2.2.2.2.2.2.1.length++((m.2.2.2.2.2.2.1.map (ia two)).flatten++(w1 m.2.2.2.2.2.2.2.length++(m.2.2.2.2.2.2.2.map (ga two)).flatten))))))))
def cH (two:Int->List UInt8)(ab:Int->Bool)(c:Cls):List UInt8:=[83,84,79,87]++(w1 c.1.length++((c.1.map (h_ two)).flatten++(w1 c.2.1++(two c.2.2.1++(two c.2.2.2.1++(w1 c.2.2.2.2.1.length++((c.2.2.2.2.1.map two).flatten ++
 (w1 c.2.2.2.2.2.1.length++((c.2.2.2.2.2.1.map (kj two)).flatten++(w1 c.2.2.2.2.2.2.length++(c.2.2.2.2.2.2.map (dH two ab)).flatten))))))))))
def zav (c:Cst)(h:mC c):w_ c=U (h_ tS c):=by
 obtain⟨c0,c1,c2,c3⟩:=c;simp only[mC]at h;simp only[w_,tY,yA,av,aF,ay,aC,bQ,aR,cf,cX,h_]
 by_cases h1:c0=1
 ·simp (discharger:=omega) only[h1,if_true,cd,b_]
 ·by_cases h2:c0=2
  ·subst h2;simp (discharger:=omega) only[Int.reduceEq,↓reduceIte,cd,bQ,b_]
  ·simp (discharger:=omega) only[h1,h2,if_true,if_false,cd,bQ,b_]
def JE (l:List Knd)(h:jK l):s6 l=U (kR tS l):=by
 simp only[jK]at h;simp only[s6,tY,yA,av]
 refine(congrArg (bindE · _) (CN (fun out i=>(l,out,(i:Int))) (fun out=>(Sum.inl out:List UInt8⊕List UInt8)) l (jk tS) 3 (fun x _=>by simp only[jk];split<;>simp) 1 ?_ ?_ (w1 l.length) (by simp)).1).trans rfl
 ·intro out;simp only[bG,bm,aQ]
 ·intro out i hi ho;have hi':(i:Int)<l.length:=by omega
  have h0:(0:Int)<=i:=by omega
  simp (discharger:=omega) only[hi',h0,ay,aP,aC,aY,bE,aF,eg]
  by_cases hk:l[i].1=3 <;>
  ·simp (discharger:=omega) only[hk,jk,↓reduceIte,cd,cf,cX,aR,aJ,wI,b_,cN]
   rfl
section
variable {two:Int->List UInt8}(h2:∀ n,(two n).length=2)
include h2
def qS (l:List Knd)(h:jK l):(kR two l).length<=3145729:=by
 have:=qR l (jk two) 3 fun x _=>by simp only[jk];split<;>simp[h2]
 simp only[jK]at h;simp only[kR,aR,cf]
 omega
def CP (t:Trp):(ia two t).length<=8:=by simp[ia,h2]
def CQ (t:Frm)(h:mD t):(ga two t).length<=6291460:=by
 have q1:=qS h2 _ h.1;have q2:=qS h2 _ h.2;simp only[ga,aR,h2]
 omega
def CR (c:Cst)(h:mC c):(h_ two c).length<=1048586:=by
 simp only[mC]at h;unfold h_;split
 ·simp only[aR,cf];omega
 ·split<;>simp[h2]
def CS (ab:Int->Bool)(m:Mth)(h:lF m):(dH two ab m).length<=8796093022208:=by
 obtain⟨a1,a2,a3,a4⟩:=h;have q1:=qR m.2.2.2.2.2.2.1 (ia two) 8 fun x _=>CP h2 x
 have q2:=qR m.2.2.2.2.2.2.2 (ga two) 6291460 fun x hx=>CQ h2 x (a4 x hx)
 unfold dH;split
 ·simp[h2]
 ·simp only[aR,cf,h2]
  omega
end
def cI (f:Int):Bool:=aa (IntKind.wrap .i64 (Int.tdiv (Int.tmod f 16) 8)=1)
def dN (f:Int):Bool:=!aa (dA .i64 f 8=0)
def zaw (m:Mth)(h:lF m):xc m=U (dH tS cI m):=by
 obtain⟨m0,m1,m2,m3,m4,m5,m6,m7⟩:=m;obtain⟨a1,a2,a3,a4⟩:=h;simp only at a1 a2 a3 a4;simp (discharger:=omega) only[xc,tY,yA,av,ay,aC,bQ,aR,cf,cX,cd,ck,aF]
 by_cases hab:IntKind.wrap .i64 (Int.tdiv (Int.tmod m0 16) 8)=1
 ·simp only[hab,dH,cI,ay,if_true,b_,cN]
 ·simp only[hab,if_false]
  refine ki (fun out i=>(out,(i:Int),m0,m1,m2,m3,m4,m5,m6,m7)) (fun out=>(out,m0,m1,m2,m3,m4,m5,m6,m7)) m6 (ia tS) 8 (fun x _=>CP cX x) 1048600 rfl (by simp only[aR,cf,cX];omega) ?_ ?_ ?_
  ·intro out;simp only[bG,bm,aQ,if_false]
  ·intro out i hi ho;have hi':(i:Int)<m6.length:=by omega
   have h0:(0:Int)<=i:=by omega
   simp (discharger:=omega) only[hi',h0,ay,aP,if_true,aC,aY,bE,av,bQ,cd,cf,cX,aR,wI,ia,b_]
   rfl
  ·intro hl;simp only[aR,cf,cX]at hl;simp (discharger:=omega) only[av,cd,aR,cf,cX]
   refine ki (fun out i=>(out,(i:Int),m0,m1,m2,m3,m4,m5,m6,m7)) (fun out=>out) m7 (ga tS) 6291460 (fun x hx=>CQ cX x (a4 x hx)) 10000000 rfl (by simp only[aR,cf,cX];omega) ?_ ?_ ?_
   ·intro out;simp only[bG,bm,aQ,if_false]
   ·intro out i hi ho;have hi':(i:Int)<m7.length:=by omega
    have h0:(0:Int)<=i:=by omega
    have hb:=a4 _ (List.getElem_mem hi);have q1:=JE _ hb.1;have q2:=JE _ hb.2;have l1:=qS cX _ hb.1;have l2:=qS cX _ hb.2;simp (discharger:=omega) only[hi',h0,ay,aP,if_true,aC,aY,bE,q1,q2,av,bQ,cd,cf,cX,aR,wI,ga,b_]
    rfl
   ·intro _;simp only[dH,cI,hab,bm,cS,if_false,b_]
end Go.Proofs.YtdpapeledldifaaGreat
end
namespace Go.Proofs.YtdpapeledldifaaGreat
section
open Go Go.AM Go.TM
def iA (c:Cls):Prop:=c.1.length<=60/\c.2.2.2.2.1.length<=3/\c.2.2.2.2.2.1.length<=5/\c.2.2.2.2.2.2.length<=6
instance (c:Cls):Decidable (iA c):=inferInstanceAs (Decidable (_/\_/\_/\_))
def JF {two:Int->List UInt8}(h2:∀ n,(two n).length=2)(t:Fld):(kj two t).length<=5:=by simp[kj,h2]
def CT (c:Cls)(h:fK c)(hf:iA c):oY c=U (cH tS cI c):=by
 obtain⟨c0,c1,c2,c3,c4,c5,c6⟩:=c;obtain⟨⟨a1,a2⟩,a3,a4,a5,a6⟩:=h;obtain⟨f1,f2,f3,f4⟩:=hf;simp only at a1 a2 a3 a4 a5 a6 f1 f2 f3 f4;simp (discharger:=omega) only[oY,tY,yA,av,ay,aC,bQ,aR,cf,cX,cd,ck]
 refine ki (fun out i=>(out,(i:Int),c0,c1,c2,c3,c4,c5,c6)) (fun out=>(out,c0,c1,c2,c3,c4,c5,c6)) c0 (h_ tS) 1048586 (fun x hx=>CR cX x (a2 x hx)) 10 rfl (by simp) ?_ ?_ ?_
 ·intro out;simp only[bG,bm,aQ,if_false]
 ·intro out i hi ho;have hi':(i:Int)<c0.length:=by omega
  have h0:(0:Int)<=i:=by omega
  have hb:=a2 _ (List.getElem_mem hi);have q1:=zav _ hb;have l1:=CR cX _ hb;simp (discharger:=omega) only[hi',h0,ay,aP,if_true,aC,aY,bE,q1,av,bQ,cd,wI]
  rfl
 intro hl;simp only[aR,cf,cX]at hl;simp (discharger:=omega) only[av,cd,ay,aC,bQ,aR,cf,cX]
 refine ki (fun out i=>(out,(i:Int),c0,c1,c2,c3,c4,c5,c6)) (fun out=>(out,c0,c1,c2,c3,c4,c5,c6)) c4 tS 2 (fun x hx=>by simp) 70000000 rfl (by simp only[aR,cf,cX];omega) ?_ ?_ ?_
 ·intro out;simp only[bG,bm,aQ,if_false]
 ·intro out i hi ho;have hi':(i:Int)<c4.length:=by omega
  have h0:(0:Int)<=i:=by omega
  simp (discharger:=omega) only[hi',h0,ay,aP,if_true,aC,aY,bE,av,bQ,cd,cX,wI]
  rfl
 intro hl2;simp only[aR,cf,cX]at hl2;simp (discharger:=omega) only[av,cd,ay,aC,bQ,aR,cf,cX]
 refine ki (fun out i=>(out,(i:Int),c0,c1,c2,c3,c4,c5,c6)) (fun out=>(out,c0,c1,c2,c3,c4,c5,c6)) c5 (kj tS) 5 (fun x hx=>JF cX x) 80000000 rfl (by simp only[aR,cf,cX];omega) ?_ ?_ ?_
 ·intro out;simp only[bG,bm,aQ,if_false]
 ·intro out i hi ho;have hi':(i:Int)<c5.length:=by omega
  have h0:(0:Int)<=i:=by omega
  simp (discharger:=omega) only[hi',h0,ay,aP,if_true,aC,aY,bE,av,bQ,cd,cf,cX,aR,wI,kj,b_,ck]
  rfl
 intro hl3;simp only[aR,cf,cX]at hl3;simp (discharger:=omega) only[av,cd,ay,aC,bQ,aR,cf,cX]
 refine ki (fun out i=>(out,(i:Int),c0,c1,c2,c3,c4,c5,c6)) (fun out=>out) c6 (dH tS cI) 8796093022208 (fun x hx=>CS cX cI x (a6 x hx)) 90000000 rfl (by simp only[aR,cf,cX];omega) ?_ ?_ ?_
 ·intro out;simp only[bG,bm,aQ,if_false]
 ·intro out i hi ho;have hi':(i:Int)<c6.length:=by omega
  have h0:(0:Int)<=i:=by omega
  have hb:=a6 _ (List.getElem_mem hi);have q1:=zaw _ hb;have l1:=CS cX cI _ hb;simp (discharger:=omega) only[hi',h0,ay,aP,if_true,aC,aY,bE,q1,av,bQ,cd,wI]
  rfl
 ·intro _;simp only[cH,b_]
def JG (l:List Knd)(h:jK l):tu l=U (kR tI l):=by
 simp only[jK]at h;simp only[tu,CO,JD,av]
 refine(congrArg (bindE · _) (CN (fun out i=>(out,l,(l.length:Int),(i:Int))) (fun out=>(Sum.inl out:List UInt8⊕List UInt8)) l (jk tI) 3 (fun x _=>by simp only[jk];split<;>simp) 1 ?_ ?_ (w1 l.length) (by simp)).1).trans rfl
 ·intro out;simp only[bG,bm,aQ]
 ·intro out i hi ho;have hi':(i:Int)<l.length:=by omega
  have h0:(0:Int)<=i:=by omega
  simp (discharger:=omega) only[hi',h0,ay,aP,aC,aY,bE,aF,eg]
  by_cases hk:l[i].1=3 <;>
  ·simp (discharger:=omega) only[hk,jk,↓reduceIte,cd,cf,cY,aR,aJ,wI,b_,cN]
   rfl
def mH:([83,84,79,87]:List UInt8).length=4:=by decide
def CU (n:Int):kf n=U (dN n):=rfl
def p67 (c:Cls)(h:fK c)(hf:iA c):xF c=U (cH tI dN c):=by
 obtain⟨c0,c1,c2,c3,c4,c5,c6⟩:=c;obtain⟨⟨a1,a2⟩,a3,a4,a5,a6⟩:=h;obtain⟨f1,f2,f3,f4⟩:=hf;simp only at a1 a2 a3 a4 a5 a6 f1 f2 f3 f4;simp (discharger:=omega) only[xF,CO,JD,CU,av,ay,aC,bQ,aR,cf,cY,cd,ck]
 refine ki (fun out i=>(out,c0,(c0.length:Int),(i:Int),c0,c1,c2,c3,c4,c5,c6)) (fun out=>(out,c0,c1,c2,c3,c4,c5,c6)) c0 (h_ tI) 1048586 (fun x hx=>CR cY x (a2 x hx)) 10 rfl (by simp) ?_ ?_ ?_
 ·intro out;simp only[bG,bm,aQ,if_false]
 ·intro out i hi ho;have hi':(i:Int)<c0.length:=by omega
  have h0:(0:Int)<=i:=by omega
  have hb:=a2 _ (List.getElem_mem hi);simp only[mC]at hb;simp (discharger:=omega) only[hi',h0,ay,aP,if_true,aC,aY,bE,av,bQ,cd,cf,cY,aR,wI,aF,eg]
  by_cases e1:c0[i].1=1
  ·simp (discharger:=omega) only[e1,h_,↓reduceIte,aJ,cd,bQ,cf,cY,aR,b_,wI]
   rfl
  ·by_cases e2:c0[i].1=2
   ·simp (discharger:=omega) only[e2,h_,Int.reduceEq,↓reduceIte,aJ,cd,bQ,cf,cY,aR,b_,wI]
    rfl
   ·simp (discharger:=omega) only[e1,e2,h_,↓reduceIte,aJ,cd,bQ,cf,cY,aR,b_,wI]
    rfl
 intro hl;simp only[aR,cf,cY,mH]at hl;simp (discharger:=omega) only[av,cd,ay,aC,bQ,aR,cf,cY,mH]
 refine ki (fun out i=>(out,c4,(c4.length:Int),(i:Int),c0,c1,c2,c3,c4,c5,c6)) (fun out=>(out,c0,c1,c2,c3,c4,c5,c6)) c4 tI 2 (fun x hx=>by simp) 70000000 rfl (by simp only[aR,cf,cY,mH];omega) ?_ ?_ ?_
 ·intro out;simp only[bG,bm,aQ,if_false]
 ·intro out i hi ho;have hi':(i:Int)<c4.length:=by omega
  have h0:(0:Int)<=i:=by omega
  simp (discharger:=omega) only[hi',h0,ay,aP,if_true,aC,aY,bE,av,bQ,cd,cf,cY,aR,wI,b_,ck]
  rfl
 intro hl2;simp only[aR,cf,cY,mH]at hl2;simp (discharger:=omega) only[av,cd,ay,aC,bQ,aR,cf,cY,mH]
 refine ki (fun out i=>(out,c5,(c5.length:Int),(i:Int),c0,c1,c2,c3,c4,c5,c6)) (fun out=>(out,c0,c1,c2,c3,c4,c5,c6)) c5 (kj tI) 5 (fun x hx=>JF cY x) 80000000 rfl (by simp only[aR,cf,cY,mH];omega) ?_ ?_ ?_
 ·intro out;simp only[bG,bm,aQ,if_false]
 ·intro out i hi ho;have hi':(i:Int)<c5.length:=by omega
  have h0:(0:Int)<=i:=by omega
  simp (discharger:=omega) only[hi',h0,ay,aP,if_true,aC,aY,bE,kj,av,bQ,cd,cf,cY,aR,wI,b_,ck]
  rfl
 intro hl3;simp only[aR,cf,cY,mH]at hl3;simp (discharger:=omega) only[av,cd,ay,aC,bQ,aR,cf,cY,mH]
 refine ki (fun out i=>(out,c6,(c6.length:Int),(i:Int))) (fun out=>out) c6 (dH tI dN) 8796093022208 (fun x hx=>CS cY dN x (a6 x hx)) 90000000 rfl (by simp only[aR,cf,cY,mH];omega) ?_ ?_ ?_
 ·intro out;simp only[bG,bm,aQ,if_false]
 ·intro out i hi ho;have hi':(i:Int)<c6.length:=by omega
  have h0:(0:Int)<=i:=by omega
  have hb:=a6 _ (List.getElem_mem hi);rcases hm:c6[i]with⟨m0,m1,m2,m3,m4,m5,m6,m7⟩;rw[hm]at hb;obtain⟨b1,b2,b3,b4⟩:=hb;simp only at b1 b2 b3 b4;simp (discharger:=omega) only[hi',h0,ay,aP,if_true,aC,aY,bE,hm,CU,av,bQ,cd,cf,cY,aR,wI]
  cases hab:dN m0 with
  | true=>
    simp (discharger:=omega) only[aP,aJ,dH,hab,if_true,b_,cN,wI]
    rfl
  |false=>
  simp (discharger:=omega) only[aQ,av,bQ,cd,ay,aC,cf,cY,aR]
  refine(congrArg (bindE · _) (?_:_=U (Sum.inl (out++dH tI dN (m0,m1,m2,m3,m4,m5,m6,m7),c6,(c6.length:Int),(i:Int))))).trans (by simp (discharger:=omega) only[aJ,wI];rfl);refine ki (fun out j=>(out,c6,(c6.length:Int),(i:Int),m6,(m6.length:Int),(j:Int),m0,m1,m2,m3,m4,m5,m6,m7)) (fun out=>(out,c6,(c6.length:Int),(i:Int),m0,m1,m2,m3,m4,m5,m6,m7)) m6 (ia tI) 8 (fun x hx=>CP cY x) 100000000000000 rfl (by simp only[aR,cf,cY];omega) ?_ ?_ ?_
  ·intro out;simp only[bG,bm,aQ,if_false]
  ·intro out j hj ho2;have hj':(j:Int)<m6.length:=by omega
   have h0:(0:Int)<=j:=by omega
   simp (discharger:=omega) only[hj',h0,ay,aP,if_true,aC,aY,bE,ia,av,bQ,cd,cf,cY,aR,wI,b_,ck]
   rfl
  intro hl4;simp only[aR,cf,cY]at hl4;simp (discharger:=omega) only[av,cd,ay,aC,bQ,aR,cf,cY]
  refine ki (fun out j=>(out,c6,(c6.length:Int),(i:Int),m7,(m7.length:Int),(j:Int))) (fun out=>(out,c6,(c6.length:Int),(i:Int))) m7 (ga tI) 6291460 (fun x hx=>CQ cY x (b4 x hx)) 200000000000000 rfl (by simp only[aR,cf,cY];omega) ?_ ?_ ?_
  ·intro out;simp only[bG,bm,aQ,if_false]
  ·intro out j hj ho2;have hj':(j:Int)<m7.length:=by omega
   have h0:(0:Int)<=j:=by omega
   have hb:=b4 _ (List.getElem_mem hj);have q1:=JG _ hb.1;have q2:=JG _ hb.2;have l1:=qS cY _ hb.1;have l2:=qS cY _ hb.2;simp (discharger:=omega) only[hj',h0,ay,aP,if_true,aC,aY,bE,q1,q2,ga,av,bQ,cd,cf,cY,aR,wI,b_,ck]
   rfl
  intro _;simp only[dH,hab,cS,if_false,b_]
 ·intro _;simp only[cH,b_]
def i1 (n:Int):Prop:=0<=n/\n<=255
def i2 (n:Int):Prop:=0<=n/\n<=65535
def yB (c:Cst):Prop:=(1<=c.1/\c.1<=6)/\c.2.1.length<=255/\i2 c.2.2.1/\i2 c.2.2.2
def CV (k:Knd):Prop:=(0<=k.1/\k.1<=3)/\i2 k.2
def yC (l:List Knd):Prop:=l.length<=8/\∀k∈l,CV k
def CW (t:Trp):Prop:=i2 t.1/\i2 t.2.1/\i2 t.2.2.1/\i2 t.2.2.2
def qT (f:Frm):Prop:=i2 f.1/\yC f.2.1/\yC f.2.2
def CX (t:Fld):Prop:=i1 t.1/\i2 t.2.1/\i2 t.2.2
def jm (m:Mth):Prop:=i1 m.1/\i2 m.2.1/\i2 m.2.2.1/\i1 m.2.2.2.1/\i1 m.2.2.2.2.1/\m.2.2.2.2.2.1.length<=120/\(m.2.2.2.2.2.2.1.length<=3/\∀t∈m.2.2.2.2.2.2.1,CW t)/\m.2.2.2.2.2.2.2.length<=8/\∀f∈m.2.2.2.2.2.2.2,qT f
def gd (c:Cls):Prop:=iA c/\(∀x∈c.1,yB x)/\i1 c.2.1/\i2 c.2.2.1/\i2 c.2.2.2.1/\(∀x∈c.2.2.2.2.1,i2 x)/\(∀x∈c.2.2.2.2.2.1,CX x)/\∀x∈c.2.2.2.2.2.2,jm x
def ca {α β:Type}{m:Option α}{k:α->Option β}{r:β}(h:m.bind k=U r):∃a,m=U a/\k a=U r:=by
 cases m with
 |none=>cases h
 |some a=>exact⟨a,rfl,h⟩
def JH {n:Int}{l:List UInt8}{p:List UInt8×List UInt8}(h:gT n l=U p):p.1.length<=n.toNat:=by
 unfold gT at h;split at h
 ·simp only[aK]at h;rw[<-h];simp only[cA];omega
 ·cases h
def mI {β:Type}{most:Int}{g:List UInt8->Option (β×List UInt8)}{P:β->Prop}(hg:∀ l v l',g l=U (v,l')->P v){l l':List UInt8}{vs:List β}(h:cM most g l=U (vs,l')):(vs.length:Int)<=most/\∀v∈vs,P v:=by
 obtain⟨p,h1,h2⟩:=ca h;split at h2
 ·cases h2
 ·have:=iS (l:=l) (v:=p.1) (l':=p.2) h1;have:=Jw _ _ _ _ h2;exact⟨by omega,Jx hg _ _ _ _ h2⟩
def iB (l:List UInt8)(v:Int)(l':List UInt8)(h:g2 l=U (v,l')):i2 v:=CL h
def tZ (l:List UInt8)(v:Int)(l':List UInt8)(h:g1 l=U (v,l')):i1 v:=iS h
def zax (l:List UInt8)(v:Cst)(l':List UInt8)(h:gw l=U (v,l')):yB v:=by
 obtain⟨⟨t,l1⟩,h1,h2⟩:=ca h;simp only at h2;unfold iT at h2;split at h2
 ·obtain⟨⟨n,l2⟩,h3,h4⟩:=ca h2;obtain⟨q,h5,h6⟩:=ca h4;simp only[aK,bH]at h6;obtain⟨rfl,_⟩:=h6;have:=iS h3;have:=JH h5;refine⟨⟨by simp,by simp⟩,by simp only;omega,⟨by simp,by simp⟩,⟨by simp,by simp⟩⟩
 ·split at h2
  ·obtain⟨⟨n,l2⟩,h3,h4⟩:=ca h2;simp only[aK,bH]at h4;obtain⟨rfl,_⟩:=h4;exact⟨⟨by simp,by simp⟩,by simp,iB _ _ _ h3,⟨by simp,by simp⟩⟩
  ·split at h2
   ·rename_i ht;obtain⟨⟨n,l2⟩,h3,h4⟩:=ca h2;obtain⟨⟨n2,l3⟩,h5,h6⟩:=ca h4;simp only[aK,bH]at h6;obtain⟨rfl,_⟩:=h6;exact⟨⟨by simp only;omega,by simp only;omega⟩,by simp,iB _ _ _ h3,iB _ _ _ h5⟩
   ·cases h2
def JI (l:List UInt8)(v:Knd)(l':List UInt8)(h:eh l=U (v,l')):CV v:=by
 obtain⟨⟨t,l1⟩,h1,h2⟩:=ca h;simp only at h2;have:=iS h1;split at h2
 ·obtain⟨⟨n,l2⟩,h3,h4⟩:=ca h2;simp only[aK,bH]at h4;obtain⟨rfl,_⟩:=h4;exact⟨⟨by simp,by simp⟩,iB _ _ _ h3⟩
 ·split at h2
  ·cases h2
  ·simp only[aK,bH]at h2;obtain⟨rfl,_⟩:=h2;exact⟨⟨by simp only;omega,by simp only;omega⟩,⟨by simp,by simp⟩⟩
def zay (l:List UInt8)(v:Trp)(l':List UInt8)(h:iU l=U (v,l')):CW v:=by
 obtain⟨⟨a,_⟩,h1,h⟩:=ca h;obtain⟨⟨b,_⟩,h2,h⟩:=ca h;obtain⟨⟨c,_⟩,h3,h⟩:=ca h;obtain⟨⟨d,_⟩,h4,h⟩:=ca h;simp only[aK,bH]at h;obtain⟨rfl,_⟩:=h;exact⟨iB _ _ _ h1,iB _ _ _ h2,iB _ _ _ h3,iB _ _ _ h4⟩
def zaz (l:List UInt8)(v:Frm)(l':List UInt8)(h:iV l=U (v,l')):qT v:=by
 obtain⟨⟨a,_⟩,h1,h⟩:=ca h;obtain⟨⟨b,_⟩,h2,h⟩:=ca h;obtain⟨⟨c,_⟩,h3,h⟩:=ca h;simp only[aK,bH]at h;obtain⟨rfl,_⟩:=h;obtain⟨q1,q2⟩:=mI JI h2;obtain⟨r1,r2⟩:=mI JI h3;exact⟨iB _ _ _ h1,⟨by simp only;omega,q2⟩,⟨by simp only;omega,r2⟩⟩
def zaA (l:List UInt8)(v:Fld)(l':List UInt8)(h:iW l=U (v,l')):CX v:=by
 obtain⟨⟨a,_⟩,h1,h⟩:=ca h;obtain⟨⟨b,_⟩,h2,h⟩:=ca h;obtain⟨⟨c,_⟩,h3,h⟩:=ca h;simp only[aK,bH]at h;obtain⟨rfl,_⟩:=h;exact⟨tZ _ _ _ h1,iB _ _ _ h2,iB _ _ _ h3⟩
def zaB (l:List UInt8)(v:Mth)(l':List UInt8)(h:f9 l=U (v,l')):jm v:=by
 obtain⟨⟨f,_⟩,h1,h⟩:=ca h;obtain⟨⟨n,_⟩,h2,h⟩:=ca h;obtain⟨⟨d,_⟩,h3,h⟩:=ca h;have q1:=tZ _ _ _ h1;have q2:=iB _ _ _ h2;have q3:=iB _ _ _ h3;have z:i1 0:=⟨by omega,by omega⟩
 unfold m3 at h;split at h
 ·simp only[aK,bH]at h;obtain⟨rfl,_⟩:=h;exact⟨q1,q2,q3,z,z,by simp,⟨by simp,by simp⟩,by simp,by simp⟩
 ·obtain⟨⟨s,_⟩,h4,h⟩:=ca h;obtain⟨⟨lo,_⟩,h5,h⟩:=ca h;obtain⟨⟨k,_⟩,h6,h⟩:=ca h;unfold b5 at h;split at h
  ·cases h
  ·obtain⟨⟨code,_⟩,h7,h⟩:=ca h;obtain⟨⟨tr,_⟩,h8,h⟩:=ca h;obtain⟨⟨fr,_⟩,h9,h⟩:=ca h;simp only[aK,bH]at h;obtain⟨rfl,_⟩:=h;have hc:=JH h7;obtain⟨t1,t2⟩:=mI zay h8;obtain⟨r1,r2⟩:=mI zaz h9;exact⟨q1,q2,q3,tZ _ _ _ h4,tZ _ _ _ h5,by simp only at hc ⊢;omega,⟨by simp only;omega,t2⟩,by simp only;omega,r2⟩
def yD (l:List UInt8)(v:Cls)(l':List UInt8)(h:hZ l=U (v,l')):gd v:=by
 obtain⟨⟨t,_⟩,_,h⟩:=ca h;unfold iY at h;split at h
 ·cases h
 obtain⟨⟨pool,_⟩,h1,h⟩:=ca h;obtain⟨⟨f,_⟩,h2,h⟩:=ca h;obtain⟨⟨n,_⟩,h3,h⟩:=ca h;obtain⟨⟨s,_⟩,h4,h⟩:=ca h;obtain⟨⟨fa,_⟩,h5,h⟩:=ca h;obtain⟨⟨fi,_⟩,h6,h⟩:=ca h;obtain⟨⟨me,_⟩,h7,h⟩:=ca h;simp only[aK,bH]at h;obtain⟨rfl,_⟩:=h;obtain⟨p1,p2⟩:=mI zax h1;obtain⟨a1,a2⟩:=mI iB h5;obtain⟨i1,i2⟩:=mI zaA h6;obtain⟨m1,m2⟩:=mI zaB h7;exact⟨⟨by simp only;omega,by simp only;omega,by simp only;omega,by simp only;omega⟩,p2,tZ _ _ _ h2,iB _ _ _ h3,iB _ _ _ h4,a2,i2,m2⟩
def iC (n:Int)(h:i2 n):tS n=tI n:=by
 obtain⟨h1,h2⟩:=h;have e1:Int.tdiv n 256=n / 256:=Int.tdiv_eq_ediv_of_nonneg h1;have e2:Int.tmod n 256=n % 256:=Int.tmod_eq_emod_of_nonneg h1;have e3:Int.fdiv n 256=n / 256:=Int.fdiv_eq_ediv_of_nonneg n (by omega);have w:∀m:Int,IntKind.wrap .u8 m=m % 256:=fun m=>by simp[IntKind.wrap,IntKind.bits,IntKind.signed]
 unfold tS tI;rw[e1,e2,e3,wI (by omega) (by omega)];congr 1;unfold w1;rw[w,w];congr 3;omega
def CY (n:Int)(h:i1 n):cI n=dN n:=by
 obtain⟨h1,h2⟩:=h;have:=JC ⟨n.toNat,by omega⟩;have e:((n.toNat:Nat):Int)=n:=by omega
 rw[show(⟨n.toNat,by omega⟩:Fin 256).val=n.toNat from rfl,e]at this;unfold cI dN;rw[this];have q:Int.tmod n 16=n % 16:=Int.tmod_eq_emod_of_nonneg h1;have q2:Int.tdiv (n % 16) 8=n % 16 / 8:=Int.tdiv_eq_ediv_of_nonneg (by omega);rw[wI (by rw[q,q2];omega) (by rw[q,q2];omega)];rfl
def pf {α β:Type}{f g:α->β}{l:List α}(h:∀ x∈l,f x=g x):l.map f=l.map g:=List.map_congr_left h
def zaC (c:Cst)(h:yB c):h_ tS c=h_ tI c:=by
 simp only[h_,iC _ h.2.2.1,iC _ h.2.2.2]
def JJ (l:List Knd)(h:yC l):kR tS l=kR tI l:=by
 simp only[kR]
 rw[pf (f:=jk tS) (g:=jk tI) fun x hx=>by simp only[jk,iC _ (h.2 x hx).2]]
def zaD (m:Mth)(h:jm m):dH tS cI m=dH tI dN m:=by
 obtain⟨h1,h2,h3,h4,h5,h6,⟨h7,h8⟩,h9,h10⟩:=h;simp only[dH,iC _ h2,iC _ h3,CY _ h1]
 rw[iC _ (show i2 (m.2.2.2.2.2.1.length:Int)from⟨by omega,by omega⟩)]
 rw[pf (f:=ia tS) (g:=ia tI) fun x hx=>by
  obtain⟨q1,q2,q3,q4⟩:=h8 x hx
  simp only[ia,iC _ q1,iC _ q2,iC _ q3,iC _ q4]]
 rw[pf (f:=ga tS) (g:=ga tI) fun x hx=>by
  obtain⟨q1,q2,q3⟩:=h10 x hx
  simp only[ga,iC _ q1,JJ _ q2,JJ _ q3]]
def pg (c:Cls)(h:gd c):cH tS cI c=cH tI dN c:=by
 obtain⟨_,h1,h2,h3,h4,h5,h6,h7⟩:=h;simp only[cH,iC _ h3,iC _ h4]
 rw[pf (f:=h_ tS) (g:=h_ tI) fun x hx=>zaC x (h1 x hx),pf (f:=tS) (g:=tI) fun x hx=>iC x (h5 x hx),pf (f:=dH tS cI) (g:=dH tI dN) fun x hx=>zaD x (h7 x hx)]
 rw[pf (f:=kj tS) (g:=kj tI) fun x hx=>by
  obtain⟨q1,q2,q3⟩:=h6 x hx
  simp only[kj,iC _ q2,iC _ q3]]
end
end Go.Proofs.YtdpapeledldifaaGreat
section
namespace Go.TM
open Go.AM
section
variable {α X Y R:Type}
def jn [DecidableEq α]{f:X->Option (X⊕(Y⊕R))}(mk:Nat->X)(fin:Y)(no:R)(a b:List α)(hl:a.length=b.length){x0:X}(hx:x0=mk 0){k:Y->Option R}
  (hend:f (mk a.length)=U (.inr (.inl fin)))
  (hstep:∀i (h:i<a.length) (h':i<b.length),f (mk i)=if a[i]=b[i]then U (.inl (mk (i+1)))else U (.inr (.inr no))) :
  bindE (aD f x0) k=if a=b then k fin else U no:=by
 have key:∀(m i:Nat),i+m=a.length->aD f (mk i)=U (if a.drop i=b.drop i then .inl fin else .inr no):=by
  intro m
  induction m with
  | zero=>
    intro i hi;have:i=a.length:=by omega
    subst this;rw[eJ,hend,List.drop_eq_nil_of_le (bI _),List.drop_eq_nil_of_le (by omega),if_pos rfl]
  | succ m ih=>
    intro i hi;have h:i<a.length:=by omega
    have h':i<b.length:=by omega
    rw[eJ,hstep i h h',kg h,kg h'];by_cases hab:a[i]=b[i]
    ·rw[if_pos hab];simp only[hab,List.cons.injEq,true_and]
     exact ih (i+1) (by omega)
    ·rw[if_neg hab,if_neg (fun h=>hab (List.cons.inj h).1)]
 rw[hx,key a.length 0 (by omega),List.drop_zero,List.drop_zero];by_cases h:a=b
 ·simp only[h,if_true,aJ]
 ·simp only[h,if_false,aT]
def kS {p:Prop}[Decidable p]:(if p then U ad else U ag:Option Bool)=U (aa p):=by by_cases h:p<;>simp[h]
end
end Go.TM
namespace Go.Proofs.YtdpapeledldifaaGreat
open Go Go.AM Go.TM
def yE {α:Type}[DecidableEq α](x y:Int×α×Int×Int):(aa (x.1=y.1)&&(aa (x.2.1=y.2.1)&&(aa (x.2.2.1=y.2.2.1)&&(aa (x.2.2.2=y.2.2.2)&&ad))))=aa (x=y):=by
 obtain⟨a,b,c,d⟩:=x;obtain⟨a',b',c',d'⟩:=y;simp only[bH,ck,Bool.decide_and]
def JK (x y:Int×Int×Int):(aa (x.1=y.1)&&(aa (x.2.1=y.2.1)&&(aa (x.2.2=y.2.2)&&ad)))=aa (x=y):=by
 obtain⟨a,b,c⟩:=x;obtain⟨a',b',c'⟩:=y;simp only[bH,ck,Bool.decide_and]
def yF (x y:Int×Int):(aa (x.1=y.1)&&(aa (x.2=y.2)&&ad))=aa (x=y):=by
 obtain⟨a,b⟩:=x;obtain⟨a',b'⟩:=y;simp only[bH,ck,Bool.decide_and]
def zaE (a b:List Cst)(ha:a.length<=1048576):xi (a,b)=U (aa (a=b)):=by
 simp only[xi,bT,aF]
 by_cases hl:(a.length:Int)=b.length
 ·have hl':a.length=b.length:=by omega
  rw[if_pos hl];refine(jn (fun i=>(a,b,(i:Int))) () ag a b hl' rfl ?_ ?_).trans kS
  ·simp only[bG,bm,aQ,if_false]
  ·intro i h h';have hi:(i:Int)<a.length:=by omega
   have hi2:(i:Int)<b.length:=by omega
   have h0:(0:Int)<=i:=by omega
   simp (discharger:=omega) only[hi,hl.symm,h0,ay,aP,if_true,aC,aY,bE,yE,aF,wI]
   rfl
 ·rw[if_neg hl];have:a≠b:=fun h=>hl (by rw[h])
  simp[this]
def JL (a b:List Knd)(ha:a.length<=1048576):s9 (a,b)=U (aa (a=b)):=by
 simp only[s9,bT,aF]
 by_cases hl:(a.length:Int)=b.length
 ·have hl':a.length=b.length:=by omega
  rw[if_pos hl];refine(jn (fun i=>(a,b,(i:Int))) () ag a b hl' rfl ?_ ?_).trans kS
  ·simp only[bG,bm,aQ,if_false]
  ·intro i h h';have hi:(i:Int)<a.length:=by omega
   have hi2:(i:Int)<b.length:=by omega
   have h0:(0:Int)<=i:=by omega
   simp (discharger:=omega) only[hi,hl.symm,h0,ay,aP,if_true,aC,aY,bE,yF,aF,wI]
   rfl
 ·rw[if_neg hl];have:a≠b:=fun h=>hl (by rw[h])
  simp[this]
def zaF (a b:List Cst)(ha:a.length<=1048576):xJ (a,b)=U (aa (a=b)):=by
 simp only[xJ,bT,aF]
 by_cases hl:(a.length:Int)=b.length
 ·have hl':a.length=b.length:=by omega
  rw[if_pos hl];refine(jn (fun i=>(a,b,(a.length:Int),(i:Int))) () ag a b hl' rfl ?_ ?_).trans kS
  ·simp only[bG,bm,aQ,if_false]
  ·intro i h h';have hi:(i:Int)<a.length:=by omega
   have hi2:(i:Int)<b.length:=by omega
   have h0:(0:Int)<=i:=by omega
   simp (discharger:=omega) only[hi,hl.symm,h0,ay,aP,if_true,aC,aY,bE,yE,aF,wI]
   rfl
 ·rw[if_neg hl];have:a≠b:=fun h=>hl (by rw[h])
  simp[this]
def zaG (a b:List Int)(ha:a.length<=1048576):xK (a,b)=U (aa (a=b)):=by
 simp only[xK,bT,aF]
 by_cases hl:(a.length:Int)=b.length
 ·have hl':a.length=b.length:=by omega
  rw[if_pos hl];refine(jn (fun i=>(a,b,(a.length:Int),(i:Int))) () ag a b hl' rfl ?_ ?_).trans kS
  ·simp only[bG,bm,aQ,if_false]
  ·intro i h h';have hi:(i:Int)<a.length:=by omega
   have hi2:(i:Int)<b.length:=by omega
   have h0:(0:Int)<=i:=by omega
   simp (discharger:=omega) only[hi,hl.symm,h0,ay,aP,if_true,aC,aY,bE,aF,wI]
   rfl
 ·rw[if_neg hl];have:a≠b:=fun h=>hl (by rw[h])
  simp[this]
def zaH (a b:List Fld)(ha:a.length<=1048576):xL (a,b)=U (aa (a=b)):=by
 simp only[xL,bT,aF]
 by_cases hl:(a.length:Int)=b.length
 ·have hl':a.length=b.length:=by omega
  rw[if_pos hl];refine(jn (fun i=>(a,b,(a.length:Int),(i:Int))) () ag a b hl' rfl ?_ ?_).trans kS
  ·simp only[bG,bm,aQ,if_false]
  ·intro i h h';have hi:(i:Int)<a.length:=by omega
   have hi2:(i:Int)<b.length:=by omega
   have h0:(0:Int)<=i:=by omega
   simp (discharger:=omega) only[hi,hl.symm,h0,ay,aP,if_true,aC,aY,bE,JK,aF,wI]
   rfl
 ·rw[if_neg hl];have:a≠b:=fun h=>hl (by rw[h])
  simp[this]
def zaI (a b:List Trp)(ha:a.length<=1048576):xM (a,b)=U (aa (a=b)):=by
 simp only[xM,bT,aF]
 by_cases hl:(a.length:Int)=b.length
 ·have hl':a.length=b.length:=by omega
  rw[if_pos hl];refine(jn (fun i=>(a,b,(a.length:Int),(i:Int))) () ag a b hl' rfl ?_ ?_).trans kS
  ·simp only[bG,bm,aQ,if_false]
  ·intro i h h';have hi:(i:Int)<a.length:=by omega
   have hi2:(i:Int)<b.length:=by omega
   have h0:(0:Int)<=i:=by omega
   simp (discharger:=omega) only[hi,hl.symm,h0,ay,aP,if_true,aC,aY,bE,yE,aF,wI]
   rfl
 ·rw[if_neg hl];have:a≠b:=fun h=>hl (by rw[h])
  simp[this]
def JM (a b:List Knd)(ha:a.length<=1048576):tA (a,b)=U (aa (a=b)):=by
 simp only[tA,bT,aF]
 by_cases hl:(a.length:Int)=b.length
 ·have hl':a.length=b.length:=by omega
  rw[if_pos hl];refine(jn (fun i=>(a,b,(a.length:Int),(i:Int))) () ag a b hl' rfl ?_ ?_).trans kS
  ·simp only[bG,bm,aQ,if_false]
  ·intro i h h';have hi:(i:Int)<a.length:=by omega
   have hi2:(i:Int)<b.length:=by omega
   have h0:(0:Int)<=i:=by omega
   simp (discharger:=omega) only[hi,hl.symm,h0,ay,aP,if_true,aC,aY,bE,yF,aF,wI]
   rfl
 ·rw[if_neg hl];have:a≠b:=fun h=>hl (by rw[h])
  simp[this]
def zaJ (x y:Frm)(h:mD x):xN (x,y)=U (aa (x=y)):=by
 obtain⟨a0,a1,a2⟩:=x;obtain⟨b0,b1,b2⟩:=y;simp only[xN,JM a1 b1 h.1,JM a2 b2 h.2,av,aF,bH]
 by_cases h0:a0=b0<;>by_cases h1:a1=b1<;>by_cases h2:a2=b2<;>simp[h0,h1,h2]
def zaK (a b:List Frm)(ha:a.length<=1048576)(hb:∀ x∈a,mD x):xO (a,b)=U (aa (a=b)):=by
 simp only[xO,bT,aF]
 by_cases hl:(a.length:Int)=b.length
 ·have hl':a.length=b.length:=by omega
  rw[if_pos hl];refine(jn (fun i=>(b,a,(a.length:Int),(i:Int))) () ag a b hl' rfl ?_ ?_).trans kS
  ·simp only[bG,bm,aQ,if_false]
  ·intro i h h';have hi:(i:Int)<a.length:=by omega
   have hi2:(i:Int)<b.length:=by omega
   have h0:(0:Int)<=i:=by omega
   have hq:=zaJ a[i] b[i] (hb _ (List.getElem_mem h));simp (discharger:=omega) only[hi,hl.symm,h0,ay,aP,if_true,aC,aY,bE,hq,av,aF,wI]
   rfl
 ·rw[if_neg hl];have:a≠b:=fun h=>hl (by rw[h])
  simp[this]
def zaL (x y:Mth)(h:lF x):xP (x,y)=U (aa (x=y)):=by
 obtain⟨a0,a1,a2,a3,a4,a5,a6,a7⟩:=x;obtain⟨b0,b1,b2,b3,b4,b5,b6,b7⟩:=y;obtain⟨h1,h2,h3,h4⟩:=h;simp only at h1 h2 h3 h4;simp only[xP,zaI a6 b6 h2,zaK a7 b7 h3 h4,av,aF,bH]
 by_cases h0:a0=b0
 ·by_cases h1:a1=b1
  ·by_cases h2:a2=b2
   ·by_cases h3:a3=b3
    ·by_cases h4:a4=b4
     ·by_cases h5:a5=b5
      ·by_cases h6:a6=b6<;>by_cases h7:a7=b7<;>simp[*]
      ·simp[*]
     ·simp[*]
    ·simp[*]
   ·simp[*]
  ·simp[*]
 ·simp[*]
def zaM (a b:List Mth)(ha:a.length<=1048576)(hb:∀ x∈a,lF x):xQ (a,b)=U (aa (a=b)):=by
 simp only[xQ,bT,aF]
 by_cases hl:(a.length:Int)=b.length
 ·have hl':a.length=b.length:=by omega
  rw[if_pos hl];refine(jn (fun i=>(b,a,(a.length:Int),(i:Int))) () ag a b hl' rfl ?_ ?_).trans kS
  ·simp only[bG,bm,aQ,if_false]
  ·intro i h h';have hi:(i:Int)<a.length:=by omega
   have hi2:(i:Int)<b.length:=by omega
   have h0:(0:Int)<=i:=by omega
   have hq:=zaL a[i] b[i] (hb _ (List.getElem_mem h));simp (discharger:=omega) only[hi,hl.symm,h0,ay,aP,if_true,aC,aY,bE,hq,av,aF,wI]
   rfl
 ·rw[if_neg hl];have:a≠b:=fun h=>hl (by rw[h])
  simp[this]
def q68 (x y:Cls)(h:fK x):xR (x,y)=U (aa (x=y)):=by
 obtain⟨a0,a1,a2,a3,a4,a5,a6⟩:=x;obtain⟨b0,b1,b2,b3,b4,b5,b6⟩:=y;obtain⟨⟨h1,_⟩,h2,h3,h4,h5⟩:=h;simp only at h1 h2 h3 h4 h5;simp only[xR,zaF a0 b0 h1,zaG a4 b4 h2,zaH a5 b5 h3,zaM a6 b6 h4 h5,av,aF,aI,bH]
 by_cases h0:a0=b0
 ·by_cases h1:a1=b1
  ·by_cases h2:a2=b2
   ·by_cases h3:a3=b3
    ·by_cases h4:a4=b4
     ·by_cases h5:a5=b5<;>by_cases h6:a6=b6<;>simp[*]
     ·simp[*]
    ·simp[*]
   ·simp[*]
  ·simp[*]
 ·simp[*]
end Go.Proofs.YtdpapeledldifaaGreat
end
section
namespace Go.Proofs.YtdpapeledldifaaGreat
open Go Go.AM Go.TM
def JN (a b:List Frm)(ha:a.length<=1048576)(hb:∀ x∈a,mD x):xj (a,b)=U (aa (a=b)):=by
 simp only[xj,bT,aF]
 by_cases hl:(a.length:Int)=b.length
 ·have hl':a.length=b.length:=by omega
  rw[if_pos hl];refine(jn (fun i=>(a,b,(i:Int))) () ag a b hl' rfl ?_ ?_).trans kS
  ·simp only[bG,bm,aQ,if_false]
  ·intro i h h';have hi:(i:Int)<a.length:=by omega
   have h0:(0:Int)<=i:=by omega
   have b1:=hb _ (List.getElem_mem h);have hq1:=JL a[i].2.1 b[i].2.1 b1.1;have hq2:=JL a[i].2.2 b[i].2.2 b1.2;simp (discharger:=omega) only[hi,hl.symm,h0,ay,aP,if_true,aC,aY,bE,hq1,hq2,av,bT,aF,eg,wI]
   generalize a[i]=x;generalize b[i]=y;obtain⟨x0,x1,x2⟩:=x;obtain⟨y0,y1,y2⟩:=y;by_cases e0:x0=y0<;>by_cases e1:x1=y1<;>by_cases e2:x2=y2<;>simp (discharger:=omega) only[e0,e1,e2,bH,if_true,if_false,and_true,and_false,aJ,aT,true_and,false_and,wI]<;>rfl
 ·rw[if_neg hl];have:a≠b:=fun h=>hl (by rw[h])
  simp[this]
def CZ {p q:Prop}[Decidable p][Decidable q]:(if p then U (aa q)else U ag:Option Bool)=U (aa (p/\q)):=by by_cases h:p<;>simp[h]
def zaN (x y:Mth)(h:lF x):xk (x,y)=U (aa (x=y)):=by
 obtain⟨a0,a1,a2,a3,a4,a5,a6,a7⟩:=x;obtain⟨b0,b1,b2,b3,b4,b5,b6,b7⟩:=y;obtain⟨h1,h2,h3,h4⟩:=h;simp only at h1 h2 h3 h4;simp only[xk,JN a7 b7 h3 h4,bT,aF,eg,aT,aJ,bH]
 by_cases e0:a0=b0
 ·by_cases e1:a1=b1
  ·by_cases e2:a2=b2
   ·by_cases e3:a3=b3
    ·by_cases e4:a4=b4
     ·by_cases e5:a5=b5
      ·by_cases hl:(a6.length:Int)=b6.length
       ·have hl':a6.length=b6.length:=by omega
        simp only[e0,e1,e2,e3,e4,e5,hl,if_true,true_and]
        refine(jn (fun i=>((i:Int),(b0,b1,b2,b3,b4,b5,a6,a7),b0,b1,b2,b3,b4,b5,b6,b7)) ((b0,b1,b2,b3,b4,b5,a6,a7),b0,b1,b2,b3,b4,b5,b6,b7) ag a6 b6 hl' rfl ?_ ?_).trans ?_
        ·simp only[bG,if_false]
        ·intro i h h';have hi:(i:Int)<a6.length:=by omega
         have h0:(0:Int)<=i:=by omega
         simp (discharger:=omega) only[hi,hl.symm,h0,ay,aP,if_true,aC,aY,bE,yE,aF,wI]
         rfl
        ·simp only[JN a7 b7 h3 h4,av]
         exact CZ
       ·have:a6≠b6:=fun h=>hl (by rw[h])
        simp[*]
      ·simp[*]
     ·simp[*]
    ·simp[*]
   ·simp[*]
  ·simp[*]
 ·simp[*]
def q70 (x y:Cls)(h:fK x):xl (x,y)=U (aa (x=y)):=by
 obtain⟨a0,a1,a2,a3,a4,a5,a6⟩:=x;obtain⟨b0,b1,b2,b3,b4,b5,b6⟩:=y;obtain⟨⟨h1,_⟩,h2,h3,h4,h5⟩:=h;simp only at h1 h2 h3 h4 h5;simp only[xl,zaE a0 b0 h1,av,bT,aF,eg,aT,aJ,bH]
 by_cases e0:a0=b0
 ·by_cases e1:a1=b1
  ·by_cases e2:a2=b2
   ·by_cases e3:a3=b3
    ·by_cases l4:(a4.length:Int)=b4.length
     ·by_cases l5:(a5.length:Int)=b5.length
      ·by_cases l6:(a6.length:Int)=b6.length
       ·have l4':a4.length=b4.length:=by omega
        have l5':a5.length=b5.length:=by omega
        have l6':a6.length=b6.length:=by omega
        simp only[e0,e1,e2,e3,l4,l5,l6,if_true,true_and]
        refine(jn (fun i=>((i:Int),(b0,b1,b2,b3,a4,a5,a6),b0,b1,b2,b3,b4,b5,b6)) ((b0,b1,b2,b3,a4,a5,a6),b0,b1,b2,b3,b4,b5,b6) ag a4 b4 l4' rfl ?_ ?_).trans ?_
        ·simp only[bG,if_false]
        ·intro i h h';have hi:(i:Int)<a4.length:=by omega
         have h0:(0:Int)<=i:=by omega
         simp (discharger:=omega) only[hi,l4.symm,h0,ay,aP,if_true,aC,aY,bE,aF,wI]
         rfl
        refine Eq.trans ?_ CZ;by_cases e4:a4=b4
        ·rw[if_pos e4,if_pos e4];simp only
         refine(jn (fun i=>((i:Int),(b0,b1,b2,b3,a4,a5,a6),b0,b1,b2,b3,b4,b5,b6)) ((b0,b1,b2,b3,a4,a5,a6),b0,b1,b2,b3,b4,b5,b6) ag a5 b5 l5' rfl ?_ ?_).trans ?_
         ·simp only[bG,if_false]
         ·intro i h h';have hi:(i:Int)<a5.length:=by omega
          have h0:(0:Int)<=i:=by omega
          simp (discharger:=omega) only[hi,l5.symm,h0,ay,aP,if_true,aC,aY,bE,JK,aF,wI]
          rfl
         refine Eq.trans ?_ CZ;by_cases e5:a5=b5
         ·rw[if_pos e5,if_pos e5];simp only
          refine(jn (fun i=>((i:Int),(b0,b1,b2,b3,a4,a5,a6),b0,b1,b2,b3,b4,b5,b6)) () ag a6 b6 l6' rfl ?_ ?_).trans kS
          ·simp only[bG,if_false]
          ·intro i h h';have hi:(i:Int)<a6.length:=by omega
           have h0:(0:Int)<=i:=by omega
           have hq:=zaN a6[i] b6[i] (h5 _ (List.getElem_mem h));simp (discharger:=omega) only[hi,l6.symm,h0,ay,aP,if_true,aC,aY,bE,hq,av,aF,wI]
           rfl
         ·rw[if_neg e5,if_neg e5]
        ·rw[if_neg e4,if_neg e4]
       ·have:a6≠b6:=fun h=>l6 (by rw[h])
        simp[*]
      ·have:a5≠b5:=fun h=>l5 (by rw[h])
       simp[*]
     ·have:a4≠b4:=fun h=>l4 (by rw[h])
      simp[*]
    ·simp[*]
   ·simp[*]
  ·simp[*]
 ·simp[*]
end Go.Proofs.YtdpapeledldifaaGreat
namespace Go.TM
open Go.AM
section
variable {α X Y R:Type}
def C0 {f:X->Option (X⊕(Y⊕R))}(mk:Nat->X)(fin:Y)(no:R)(l:List α)(p:α->Bool){x0:X}(hx:x0=mk 0){k:Y->Option R}
  (hend:f (mk l.length)=U (.inr (.inl fin)))
  (hstep:∀i (h:i<l.length),f (mk i)=if p l[i]=ad then U (.inl (mk (i+1)))else U (.inr (.inr no))) :
  bindE (aD f x0) k=if l.all p=ad then k fin else U no:=by
 have key:∀(m i:Nat),i+m=l.length->aD f (mk i)=U (if(l.drop i).all p=ad then .inl fin else .inr no):=by
  intro m
  induction m with
  | zero=>
    intro i hi;have:i=l.length:=by omega
    subst this;rw[eJ,hend,List.drop_eq_nil_of_le (bI _)];rfl
  | succ m ih=>
    intro i hi;have h:i<l.length:=by omega
    rw[eJ,hstep i h,kg h,List.all_cons];cases hp:p l[i]
    ·simp
    ·simp only[if_true,Bool.true_and]
     exact ih (i+1) (by omega)
 rw[hx,key l.length 0 (by omega),List.drop_zero];by_cases h:l.all p=ad
 ·simp only[h,if_true,aJ]
 ·simp only[h,if_false,aT,cS]
end
end Go.TM
namespace Go.Proofs.YtdpapeledldifaaGreat
open Go Go.AM Go.TM
def ph (f:Frm):Bool:=aa (f.2.1.length<=8)&&aa (f.2.2.length<=8)
def nO (m:Mth):Bool:=aa (m.2.2.2.2.2.1.length<=120)&&(aa (m.2.2.2.2.2.2.1.length<=3)&&(aa (m.2.2.2.2.2.2.2.length<=8)&&m.2.2.2.2.2.2.2.all ph))
def sm (c:Cls):Bool:=aa (iA c)&&(c.1.all (fun x=>aa (x.2.1.length<=255))&&c.2.2.2.2.2.2.all nO)
def q66 (c:Cls)(h:fK c):xE c=U (sm c):=by
 obtain⟨c0,c1,c2,c3,c4,c5,c6⟩:=c;obtain⟨⟨a1,a2⟩,a3,a4,a5,a6⟩:=h;simp only at a1 a2 a3 a4 a5 a6;simp only[xE,aF,eg,aT,aJ]
 by_cases f1:(60:Int)<c0.length
 ·have:¬iA (c0,c1,c2,c3,c4,c5,c6):=fun h=>by have:=h.1;simp only at this;omega
  simp[f1,sm,this]
 by_cases f2:(3:Int)<c4.length
 ·have:¬iA (c0,c1,c2,c3,c4,c5,c6):=fun h=>by have:=h.2.1;simp only at this;omega
  simp[f1,f2,sm,this]
 by_cases f3:(5:Int)<c5.length
 ·have:¬iA (c0,c1,c2,c3,c4,c5,c6):=fun h=>by have:=h.2.2.1;simp only at this;omega
  simp[f1,f2,f3,sm,this]
 by_cases f4:(6:Int)<c6.length
 ·have:¬iA (c0,c1,c2,c3,c4,c5,c6):=fun h=>by have:=h.2.2.2;simp only at this;omega
  simp[f1,f2,f3,f4,sm,this]
 have hf:iA (c0,c1,c2,c3,c4,c5,c6):=⟨by simp only;omega,by simp only;omega,by simp only;omega,by simp only;omega⟩
 simp only[f1,f2,f3,f4,if_false,sm,hf,ay,Bool.true_and]
 refine(C0 (fun i=>(c0,(c0.length:Int),(i:Int),c0,c1,c2,c3,c4,c5,c6)) (c0,c1,c2,c3,c4,c5,c6) ag c0 (fun x=>aa (x.2.1.length<=255)) rfl ?_ ?_).trans ?_
 ·simp only[bG,if_false]
 ·intro i h;have hi:(i:Int)<c0.length:=by omega
  have h0:(0:Int)<=i:=by omega
  simp (discharger:=omega) only[hi,h0,ay,if_true,aC,aY,bE,aF,wI,aI]
  by_cases hx:(255:Int)<c0[i].2.1.length
  ·rw[if_pos hx,if_neg (by omega)]
  ·rw[if_neg hx,if_pos (by omega)];rfl
 by_cases hp:(c0.all fun x=>aa (x.2.1.length<=255))=ad
 ·rw[if_pos hp,hp];simp only[Bool.true_and]
  refine(C0 (fun i=>(c6,(c6.length:Int),(i:Int))) () ag c6 nO rfl ?_ ?_).trans ?_
  ·simp only[bG,if_false]
  ·intro i h;have hi:(i:Int)<c6.length:=by omega
   have h0:(0:Int)<=i:=by omega
   have hb:=a6 _ (List.getElem_mem h);simp (discharger:=omega) only[hi,h0,ay,if_true,aC,aY,bE,aF,wI,eg,aT,aJ]
   generalize c6[i]=m at hb;obtain⟨m0,m1,m2,m3,m4,m5,m6,m7⟩:=m;obtain⟨b1,b2,b3,b4⟩:=hb;simp only at b1 b2 b3 b4 ⊢;by_cases g1:(120:Int)<m5.length
   ·have:¬m5.length<=120:=by omega
    simp[g1,nO,this]
   by_cases g2:(3:Int)<m6.length
   ·have:¬m6.length<=3:=by omega
    simp[g1,g2,nO,this]
   by_cases g3:(8:Int)<m7.length
   ·have:¬m7.length<=8:=by omega
    simp[g1,g2,g3,nO,this]
   simp only[g1,g2,g3,if_false,nO,show m5.length<=120 by omega,show m6.length<=3 by omega,show m7.length<=8 by omega,ay,Bool.true_and]
   refine(congrArg (bindE · _) (C0 (fun j=>(c6,(c6.length:Int),(i:Int),m7,(m7.length:Int),(j:Int))) (c6,(c6.length:Int),(i:Int)) (.inr (.inr (.inr ag))) m7 ph rfl ?_ ?_)).trans ?_
   ·simp only[bG,if_false]
   ·intro j h;have hj:(j:Int)<m7.length:=by omega
    have h0:(0:Int)<=j:=by omega
    simp (discharger:=omega) only[hj,h0,ay,if_true,aC,aY,bE,eg,aT,aJ,wI]
    generalize m7[j]=fr;by_cases u1:(8:Int)<fr.2.1.length
    ·have:¬fr.2.1.length<=8:=by omega
     simp[u1,ph,this]
    by_cases u2:(8:Int)<fr.2.2.length
    ·have:¬fr.2.2.length<=8:=by omega
     simp[u1,u2,ph,this]
    simp only[u1,u2,if_false,ph,show fr.2.1.length<=8 by omega,show fr.2.2.length<=8 by omega,ay,Bool.true_and,if_true]
    rfl
   ·by_cases hq:m7.all ph=ad
    ·simp (discharger:=omega) only[hq,if_true,aJ,wI];rfl
    ·simp only[hq,if_false,aT,cS]
  ·by_cases hq:c6.all nO=ad<;>simp[hq]
 ·rw[if_neg hp];simp only[Bool.not_eq_true]at hp;rw[hp];rfl
def zaO {c:Cls}(h:sm c=ad):iA c:=by
 simp only[sm,aG,aI]at h;exact h.1
def zaP {c:Cls}(h:gd c):sm c=ad:=by
 obtain⟨h0,h1,_,_,_,_,_,h7⟩:=h;simp only[sm,aG,aI,List.all_eq_true]
 refine⟨h0,fun x hx=>(h1 x hx).2.1,fun m hm=>?_⟩;obtain⟨_,_,_,_,_,g1,⟨g2,_⟩,g3,g4⟩:=h7 m hm;simp only[nO,ph,aG,aI,List.all_eq_true]
 exact⟨g1,g2,g3,fun f hf=>⟨(g4 f hf).2.1.1,(g4 f hf).2.2.1⟩⟩
noncomputable def put (c:Cls):List UInt8:=by
 classical
 exact if gd c/\(cH tI dN c).length<=900/\hZ (cH tI dN c)=U (c,[])then cH tI dN c else []
def C1 {c:Cls}(h:gd c/\(cH tI dN c).length<=900/\hZ (cH tI dN c)=U (c,[])):put c=cH tI dN c:=by
 unfold put;rw[if_pos h]
def kl {c:Cls}(h:¬ (gd c/\(cH tI dN c).length<=900/\hZ (cH tI dN c)=U (c,[]))):put c=[]:=by
 unfold put;rw[if_neg h]
def zaQ (c:Cls)(h:fK c):xS c=U (put c):=by
 obtain⟨c0,c1,c2,c3,c4,c5,c6⟩:=c;simp only[xS,q66 _ h,av,bT]
 cases hs:sm (c0,c1,c2,c3,c4,c5,c6)with
 | false=>
   rw[aQ,kl];intro hh;rw[zaP hh.1]at hs;cases hs
 | true=>
   rw[aP,p67 _ h (zaO hs)];simp only[av]
   by_cases hl:(cH tI dN (c0,c1,c2,c3,c4,c5,c6)).length<=900
   ·have hg:=i17 _ hl;unfold f_ at hg;rw[hg];cases hc:hZ (cH tI dN (c0,c1,c2,c3,c4,c5,c6))with
    | none=>
      simp only[av,aQ]
      rw[kl];rintro⟨_,_,h3⟩;rw[hc]at h3;cases h3
    | some p=>
      obtain⟨d,r⟩:=p;cases r with
      | cons x r=>
        simp only[av,aQ]
        rw[kl];rintro⟨_,_,h3⟩;rw[hc]at h3;cases h3
      | nil=>
        obtain⟨d0,d1,d2,d3,d4,d5,d6⟩:=d;simp only[av,aP]
        rw[q68 _ _ h,av,aF];by_cases he:(c0,c1,c2,c3,c4,c5,c6)=(d0,d1,d2,d3,d4,d5,d6)
        ·rw[if_pos he,C1];refine⟨?_,hl,?_⟩
         ·rw[he];exact yD _ _ _ hc
         ·rw[hc,he]
        ·rw[if_neg he,kl];rintro⟨_,_,h3⟩;rw[hc]at h3;simp only[aK,bH]at h3;exact he (by simp only[bH];obtain⟨⟨k0,k1,k2,k3,k4,k5,k6⟩,_⟩:=h3;exact⟨k0.symm,k1.symm,k2.symm,k3.symm,k4.symm,k5.symm,k6.symm⟩)
   ·have hn:(900:Int)<((cH tI dN (c0,c1,c2,c3,c4,c5,c6)).length:Int):=by omega
    simp only[tz,hn,ay,aP,av,aQ]
    rw[kl];rintro⟨_,h2,_⟩;exact hl h2
def zaR (c:Cls):w9 c=U (aa (iA c)):=by
 obtain⟨c0,c1,c2,c3,c4,c5,c6⟩:=c;have hf:iA (c0,c1,c2,c3,c4,c5,c6)↔(c0.length<=60/\c4.length<=3/\c5.length<=5/\c6.length<=6):=Iff.rfl;simp only[w9,aF]
 repeat' split
 all_goals
  rw[aK,Bool.eq_iff_iff,decide_eq_true_iff (p:=iA _),hf]
  first
   |(rw[decide_eq_true_iff];omega)
   |(constructor<;>intro hh<;>first|omega|cases hh)
end Go.Proofs.YtdpapeledldifaaGreat
end
namespace Go.Proofs.YtdpapeledldifaaGreat
section
open Go Go.AM Go.TM
def JO {c:Cls}(h:gd c):iA c:=h.1
def qU {c:Cls}(h:gd c):fK c:=by
 obtain⟨⟨f1,f2,f3,f4⟩,h1,_,_,_,_,_,h7⟩:=h;refine⟨⟨by omega,fun x hx=>?_⟩,by omega,by omega,by omega,fun m hm=>?_⟩
 ·have:=(h1 x hx).2.1;simp only[mC];omega
 ·obtain⟨_,_,_,_,_,g1,⟨g2,_⟩,g3,g4⟩:=h7 m hm;refine⟨by omega,by omega,by omega,fun f hf=>?_⟩;obtain⟨_,⟨k1,_⟩,⟨k2,_⟩⟩:=g4 f hf;simp only[mD,jK];omega
def JP (l:List UInt8)(hl:l.length<=900):∃b c,ke l=U (b,c)/\(b=ad->hZ l=U (c,[])/\cH tS cI c=l)/\(∀c',hZ l=U (c',[])->cH tS cI c'=l->b=ad):=by
 have hn:¬((900:Int)<(l.length:Int)):=by omega
 simp only[ke,hn,bm,aQ]
 obtain⟨v,⟨s1,s2,s3⟩,e1,⟨r1,r2,r3,_,r5,r6⟩,e3⟩:=zau (s0:=l) (l,0,ag) (U l) ⟨rfl,by simp,by simp,hl,(fun h=>by cases h),fun l' h=>by
  simp only[aK]at h;exact⟨rfl,by rw[<-h];rfl⟩⟩
 rw[e1];obtain⟨y,y1,y2,y3,y4,y5,x⟩:=v;simp only[av]
 simp only at r1 r2 r3 r5 r6;subst r1;cases hb:hZ s1 with
 | none=>
   have:s3=ad:=r5 (by rw[bh,hb];rfl);subst this;exact⟨_,_,rfl,(fun h=>by cases h),fun c' h=>by cases h⟩
 | some p=>
   obtain⟨c,r⟩:=p;obtain⟨h3,h4⟩:=r6 r (by rw[bh,hb];rfl);have hv:=e3 c r (by rw[bh,hb]);subst h3;simp only[aQ,bT,aF]
   by_cases hs:s2=(s1.length:Int)
   ·have hr:r=[]:=by rw[h4];exact List.drop_eq_nil_of_le (by omega)
    subst hr;rw[if_pos hs];have hf:gd (y,y1,y2,y3,y4,y5,x):=by rw[hv];exact yD _ _ _ hb
    rw[CT _ (qU hf) (JO hf)];simp only[av]
    by_cases hw:cH tS cI (y,y1,y2,y3,y4,y5,x)=s1
    ·rw[if_pos hw];exact⟨_,_,rfl,(fun _=>⟨by rw[hv],hw⟩),fun _ _ _=>rfl⟩
    ·rw[if_neg hw];refine⟨_,_,rfl,(fun h=>by cases h),fun c' h1 h2=>?_⟩;simp only[aK,bH,and_true]at h1;rw[hv,h1]at hw;exact absurd h2 hw
   ·rw[if_neg hs];refine⟨_,_,rfl,(fun h=>by cases h),fun c' h1 h2=>?_⟩;simp only[aK,bH]at h1;have hr:r=[]:=h1.2;rw[hr]at h4;have:=congrArg au h4;simp only[cW,dF]at this;omega
def JQ (c:Cls)(h:fK c):s_ c=U (put c):=by
 obtain⟨c0,iY,kQ,iX,mF,fL,gc6⟩:=c;simp only[s_,zaR,av,bT,aF]
 by_cases hf:iA (c0,iY,kQ,iX,mF,fL,gc6)
 ·rw[if_pos hf,CT _ h hf];simp only[av]
  by_cases hl:(cH tS cI (c0,iY,kQ,iX,mF,fL,gc6)).length<=900
  ·obtain⟨b,d,e,h1,h2⟩:=JP _ hl;rw[e];obtain⟨d0,d1,d2,d3,d4,d5,d6⟩:=d;simp only[av]
   cases b with
   | false=>
     rw[aQ,kl];rintro⟨q1,q2,q3⟩;rw[<-pg _ q1]at q3;cases h2 _ q3 rfl
   | true=>
     obtain⟨g1,g2⟩:=h1 rfl;have hd:=yD _ _ _ g1;rw[aP,q70 _ _ (qU hd),av,aF];by_cases he:(d0,d1,d2,d3,d4,d5,d6)=(c0,iY,kQ,iX,mF,fL,gc6)
     ·rw[if_pos he];rw[he]at hd g1;have:=pg _ hd;rw[C1,this];rw[this]at g1 hl;exact⟨hd,hl,g1⟩
     ·rw[if_neg he,kl];rintro⟨q1,q2,q3⟩;rw[<-pg _ q1]at q3;rw[q3]at g1;simp only[aK,bH]at g1 he;obtain⟨⟨k0,k1,k2,k3,k4,k5,k6⟩,_⟩:=g1;exact he ⟨k0.symm,k1.symm,k2.symm,k3.symm,k4.symm,k5.symm,k6.symm⟩
  ·have hn:(900:Int)<((cH tS cI (c0,iY,kQ,iX,mF,fL,gc6)).length:Int):=by omega
   simp only[ke,hn,ay,aP,av,aQ]
   rw[kl];rintro⟨q1,q2,q3⟩;rw[<-pg _ q1]at q2;exact hl q2
 ·rw[if_neg hf,kl];exact fun hh=>hf hh.1.1
end
end Go.Proofs.YtdpapeledldifaaGreat
namespace Go.Stow
section
def cut (c:UInt8):List UInt8->Option (List UInt8×List UInt8)
 |[]=>aj
 |x::l=>if x=c then U ([],l)else(cut c l).map fun p=>(x::p.1,p.2)
def t4 {c:UInt8}:∀{l a b:List UInt8},cut c l=U (a,b)->l=a++c::b/\c ∉ a
 |[],a,b,h=>by cases h
 | x::l,a,b,h=>by
   unfold cut at h;by_cases hx:x=c
   ·rw[if_pos hx]at h;simp only[aK,bH]at h;obtain⟨rfl,rfl⟩:=h;exact⟨by rw[hx];rfl,by simp⟩
   ·rw[if_neg hx]at h;cases hc:cut c l with
    |none=>rw[hc]at h;cases h
    | some p=>
      obtain⟨a',b'⟩:=p;rw[hc]at h;simp only[Option.map_some,aK,bH]at h;obtain⟨rfl,rfl⟩:=h;obtain⟨h1,h2⟩:=t4 hc;exact⟨by rw[h1];rfl,by simp only[List.mem_cons,not_or];exact⟨fun h=>hx h.symm,h2⟩⟩
def yG {c:UInt8}:∀{l:List UInt8},cut c l=aj↔c ∉ l
 |[]=>by simp[cut]
 | x::l=>by
   unfold cut;by_cases hx:x=c
   ·rw[if_pos hx];simp[hx]
   ·rw[if_neg hx];simp only[Option.map_eq_none_iff,yG,List.mem_cons,not_or]
    exact⟨fun h=>⟨fun h=>hx h.symm,h⟩,fun h=>h.2⟩
def JR {c:UInt8}:∀{a b:List UInt8},c ∉ a->cut c (a++c::b)=U (a,b)
 |[],b,_=>by simp[cut]
 | x::a,b,h=>by
   simp only[List.mem_cons,not_or]at h;rw[cD];unfold cut;rw[if_neg fun e=>h.1 e.symm,JR h.2];rfl
def fM (b:UInt8):Prop:=(97<=b.toNat/\b.toNat<=122)\/(65<=b.toNat/\b.toNat<=90)
def iZ (b:UInt8):Prop:=48<=b.toNat/\b.toNat<=57
def Nm (s:List UInt8):Prop:=(1<=s.length/\s.length<=8)/\∀i (h:i<s.length),fM s[i]\/(i≠0/\iZ s[i])
noncomputable instance (s:List UInt8):Decidable (Nm s):=Classical.propDecidable _
def Nm.mem {s:List UInt8}(h:Nm s){b:UInt8}(hb:b∈s):fM b\/iZ b:=by
 obtain⟨i,hi,rfl⟩:=List.mem_iff_getElem.1 hb;rcases h.2 i hi with h|h
 ·exact .inl h
 ·exact .inr h.2
def Nm.no {s:List UInt8}(h:Nm s)(b:UInt8)(hb:¬ (fM b\/iZ b)):b ∉ s:=fun hm=>hb (h.mem hm)
def no41:¬(fM 41\/iZ 41):=by simp[fM,iZ]
def JS:¬(fM 59\/iZ 59):=by simp[fM,iZ]
def Nm.ne {s:List UInt8}(h:Nm s):s≠[]:=by rintro rfl;exact absurd h.1.1 (by simp)
def C2:¬Nm []:=fun h=>h.ne rfl
def Tok (t:List UInt8):Prop:=t=[73]\/∃n,Nm n/\t=76::(n++[59])
noncomputable instance (s:List UInt8):Decidable (Tok s):=Classical.propDecidable _
def Tok.no41 {t:List UInt8}(h:Tok t):(41:UInt8) ∉ t:=by
 rcases h with rfl|⟨n,hn,rfl⟩
 ·simp
 ·have:=hn.no 41 Stow.no41;simp[this]
def t5:¬Tok []:=by
 rintro(h|⟨n,_,h⟩)<;>cases h
noncomputable def one:List UInt8->Option (List UInt8×List UInt8)
 |[]=>aj
 |x::r=>if x=73 then U ([73],r)else if x=76 then(cut 59 r).bind fun p=>if Nm p.1 then U (76::(p.1++[59]),p.2)else aj else aj
def C3 (x:UInt8)(r:List UInt8):one (x::r)=if x=73 then U ([73],r)else if x=76 then(cut 59 r).bind fun p=>if Nm p.1 then U (76::(p.1++[59]),p.2)else aj else aj:=rfl
def kT {l t r:List UInt8}(h:one l=U (t,r)):l=t++r/\Tok t:=by
 cases l with
 |nil=>cases h
 | cons x l=>
   rw[C3]at h;by_cases h1:x=73
   ·rw[if_pos h1]at h;simp only[aK,bH]at h;obtain⟨rfl,rfl⟩:=h;exact⟨by rw[h1];rfl,.inl rfl⟩
   ·rw[if_neg h1]at h;by_cases h2:x=76
    ·rw[if_pos h2]at h;cases hc:cut 59 l with
     |none=>rw[hc]at h;cases h
     | some p=>
       obtain⟨n,b⟩:=p;rw[hc,bh]at h;by_cases hn:Nm n
       ·rw[if_pos hn]at h;simp only[aK,bH]at h;obtain⟨rfl,rfl⟩:=h;obtain⟨e,_⟩:=t4 hc;exact⟨by rw[h2,e];simp,.inr ⟨n,hn,rfl⟩⟩
       ·rw[if_neg hn]at h;cases h
    ·rw[if_neg h2]at h;cases h
def yH {t:List UInt8}(h:Tok t)(r:List UInt8):one (t++r)=U (t,r):=by
 rcases h with rfl|⟨n,hn,rfl⟩
 ·rfl
 ·rw[cD,C3,if_neg (by decide),if_pos rfl];have:(n++[59])++r=n++59::r:=by simp
  rw[this,JR (hn.no 59 JS),bh,if_pos hn]
def C4 {l:List UInt8}:one l=aj↔∀t r,l=t++r->¬Tok t:=by
 constructor
 ·intro h t r e ht;rw[e,yH ht]at h;cases h
 ·intro h;cases ho:one l with
  |none=>rfl
  | some p=>
    obtain⟨t,r⟩:=p;obtain⟨h1,h2⟩:=kT ho;exact absurd h2 (h t r h1)
def JT {s:List UInt8}:Tok s↔one s=U (s,[]):=by
 constructor
 ·intro h;have:=yH h [];rwa[cN]at this
 ·intro h;exact(kT h).2
noncomputable def more:Nat->List UInt8->Option (List (List UInt8)×List UInt8)
 |_,[]=>aj
 |0,x::l=>if x=41 then U ([],l)else aj
 |k+1,x::l=>if x=41 then U ([],l)else(one (x::l)).bind fun p=>(more k p.2).map fun q=>(p.1::q.1,q.2)
noncomputable def mr:Nat->List UInt8->Option (List (List UInt8))
 |_,[]=>U []
 |0,_::_=>aj
 |k+1,x::l=>(one (x::l)).bind fun p=>(mr k p.2).map fun q=>p.1::q
def yI (k:Nat)(x:UInt8)(l:List UInt8):more (k+1) (x::l)=if x=41 then U ([],l)else(one (x::l)).bind fun p=>(more k p.2).map fun q=>(p.1::q.1,q.2):=rfl
def JU (k:Nat)(x:UInt8)(l:List UInt8):mr (k+1) (x::l)=(one (x::l)).bind fun p=>(mr k p.2).map fun q=>p.1::q:=rfl
def zaS {l b:List UInt8}(h:(41:UInt8) ∉ l)(hl:l≠[]):one (l++41::b)=(one l).map fun p=>(p.1,p.2++41::b):=by
 cases ho:one l with
 | some p=>
   obtain⟨t,r⟩:=p;obtain⟨h1,h2⟩:=kT ho;rw[h1,b_,yH h2];rfl
 | none=>
   rw[Option.map_none,C4];intro t r e ht;have h41:=ht.no41;rw[C4]at ho
   have hle:t.length<=l.length:=by
    refine Nat.le_of_not_lt fun hlt=>h41 ?_
    have e2:(l++41::b)[l.length]? = (t++r)[l.length]?:=by rw[e]
    rw[List.getElem?_append_right (bI _),Nat.sub_self,List.getElem?_append_left hlt]at e2;exact cK e2.symm
   have e3:l=t++l.drop t.length:=by
    have e4:=congrArg (nY t.length) e;rw[List.take_append_of_le_length hle,List.take_append_of_le_length (bI _),List.take_length]at e4;rw[<-e4,cA,Nat.min_eq_left hle,List.take_append_drop]
   exact ho t _ e3 ht
def JV:∀(k:Nat) (l b:List UInt8),(41:UInt8) ∉ l->more k (l++41::b)=(mr k l).map fun q=>(q,b)
 |0,[],b,_=>by simp[more,mr]
 |_+1,[],b,_=>by simp[more,mr]
 | 0,x::l,b,h=>by
   have:x≠41:=fun e=>h (by simp[e])
   simp[more,mr,this]
 | k+1,x::l,b,h=>by
   have hx:x≠41:=fun e=>h (by simp[e])
   have:=zaS (b:=b) h (by simp);rw[cD]at this ⊢;rw[yI,JU,if_neg hx,this];cases ho:one (x::l)with
   |none=>rfl
   | some p=>
     obtain⟨t,r⟩:=p;obtain⟨h1,h2⟩:=kT ho;have hr:(41:UInt8) ∉ r:=fun hm=>h (by rw[h1];simp[hm])
     show(more k (r++41::b)).map _=((mr k r).map _).map _;rw[JV k r b hr];cases mr k r<;>rfl
def JW:∀(k:Nat) (l:List UInt8),(41:UInt8) ∉ l->more k l=aj
 |0,[],_=>by simp[more]
 |_+1,[],_=>by simp[more]
 | 0,x::l,h=>by
   have:x≠41:=fun e=>h (by simp[e])
   simp[more,this]
 | k+1,x::l,h=>by
   have hx:x≠41:=fun e=>h (by simp[e])
   rw[yI,if_neg hx];cases ho:one (x::l)with
   |none=>rfl
   | some p=>
     obtain⟨t,r⟩:=p;obtain⟨h1,h2⟩:=kT ho;have hr:(41:UInt8) ∉ r:=fun hm=>h (by rw[h1];simp[hm])
     simp only[bh,JW k r hr,Option.map_none]
noncomputable def ib (s:List UInt8):List (List UInt8)×List UInt8×Bool :=
 match s with
 |[]=>([],[],ag)
 | x::l=>if x=40 then
   match more 4 l with
   |none=>([],[],ag)
   |some (ts,back)=>if back=[86]\/Tok back then(ts,back,ad)else([],[],ag)
   else([],[],ag)
def Dsc (s:List UInt8):Prop:=(ib s).2.2=ad
noncomputable instance (s:List UInt8):Decidable (Dsc s):=Classical.propDecidable _
def C5:¬Dsc []:=by simp[Dsc,ib]
abbrev Ent:=Int×List UInt8×Int×Int
def bb (p:List Ent)(i:Int):Ent:=if 1<=i/\i<=p.length then p[(i-1).toNat]?.getD (0,[],0,0)else(0,[],0,0)
def ch (p:List Ent)(i:Int)(Q:List UInt8->Prop):Prop:=(bb p i).1=1/\Q (bb p i).2.1
noncomputable instance (p:List Ent)(i:Int)(Q:List UInt8->Prop):Decidable (ch p i Q):=Classical.propDecidable _
def cO (p:List Ent)(i:Int):Prop:=(bb p i).1=2/\ch p (bb p i).2.2.1 Nm
noncomputable instance (p:List Ent)(i:Int):Decidable (cO p i):=Classical.propDecidable _
noncomputable def cg (p:List Ent)(i:Int):List UInt8:=if cO p i then(bb p (bb p i).2.2.1).2.1 else []
def bq (p:List Ent)(i:Int):List UInt8:=if(bb p i).1=1 then(bb p i).2.1 else []
def kU {p:List Ent}{i:Int}:cg p i≠[]↔cO p i:=by
 unfold cg;constructor
 ·intro h;by_cases hc:cO p i
  ·exact hc
  ·rw[if_neg hc]at h;exact absurd rfl h
 ·intro h;rw[if_pos h];exact h.2.2.ne
def nP {p:List Ent}{i:Int}{Q:List UInt8->Prop}(h0:¬ Q []):Q (bq p i)↔ch p i Q:=by
 unfold bq ch;by_cases h:(bb p i).1=1
 ·rw[if_pos h];simp[h]
 ·rw[if_neg h];simp[h,h0]
def zOy (s:List UInt8):Prop:=Tok s\/Dsc s
def zOH:¬zOy []:=by
 rintro(h|h)
 ·exact t5 h
 ·exact C5 h
def eV (p:List Ent)(x:Ent):Prop :=
 if x.1=1 then x.2.2.1=0/\x.2.2.2=0/\(Nm x.2.1\/zOy x.2.1)
 else if x.1=2 then x.2.1=[]/\x.2.2.2=0/\ch p x.2.2.1 Nm
 else if x.1=3 then x.2.1=[]/\ch p x.2.2.1 Nm/\ch p x.2.2.2 zOy
 else if x.1=4 then x.2.1=[]/\cO p x.2.2.1/\(bb p x.2.2.2).1=3/\ch p (bb p x.2.2.2).2.2.2 Tok
 else if x.1=5\/x.1=6 then x.2.1=[]/\cO p x.2.2.1/\(bb p x.2.2.2).1=3/\ch p (bb p x.2.2.2).2.2.2 Dsc
 else False
noncomputable instance (p:List Ent)(x:Ent):Decidable (eV p x):=Classical.propDecidable _
def zXy {p:List Ent}{i:Nat}(h:i<p.length):bb p ((i:Int)+1)=p[i]:=by
 unfold bb;rw[if_pos ⟨by omega,by omega⟩,show((i:Int)+1-1).toNat=i by omega,bt h];rfl
def JX {p:List Ent}{i:Int}(h:(bb p i).1≠0):∃k,∃_:k<p.length,bb p i=p[k]:=by
 unfold bb at h ⊢;by_cases hi:1<=i/\i<=p.length
 ·rw[if_pos hi]at h ⊢;exact⟨(i-1).toNat,by omega,by rw[bt (by omega)];rfl⟩
 ·rw[if_neg hi]at h;exact absurd rfl h
def kV (p:List Ent):Prop:=∀i (h:i<p.length),eV p p[i]
noncomputable def dZ (p:List Ent):Nat->Nat->Int
 |0,_=>0
 |m+1,i=>if h:i<p.length then if eV p p[i]then dZ p m (i+1)else(i:Int)+1 else 0
def JY {p:List Ent}:∀(m i:Nat),i+m=p.length->(dZ p m i=0↔∀j,i<=j->∀h:j<p.length,eV p p[j])
 | 0,i,hi=>by
   constructor
   ·intro _ j h1 h2;omega
   ·intro _;rfl
 | m+1,i,hi=>by
   have h:i<p.length:=by omega
   unfold dZ;rw[dif_pos h];by_cases he:eV p p[i]
   ·rw[if_pos he,JY m (i+1) (by omega)];constructor
    ·intro hh j h1 h2;by_cases hj:j=i
     ·subst hj;exact he
     ·exact hh j (by omega) h2
    ·intro hh j h1 h2;exact hh j (by omega) h2
   ·rw[if_neg he];constructor
    ·intro hh;omega
    ·intro hh;exact absurd (hh i (bI _) h) he
def C6 {p:List Ent}:dZ p p.length 0=0↔kV p:=by
 rw[JY p.length 0 (by omega)];exact⟨fun h j hj=>h j (by omega) hj,fun h j _ hj=>h j hj⟩
def kV.cls {p:List Ent}(h:kV p){i:Int}:cO p i↔(bb p i).1=2:=by
 constructor
 ·exact fun h=>h.1
 ·intro h2;obtain⟨k,hk,e⟩:=JX (p:=p) (i:=i) (by omega);have:=h k hk;rw[<-e]at this;unfold eV at this;rw[if_neg (by omega),if_pos h2]at this;exact⟨h2,this.2.2⟩
def bU (p:List Ent)(i:Int):List UInt8:=if(bb p i).1=2 then(bb p (bb p i).2.2.1).2.1 else(bb p i).2.1
def pj {p:List Ent}{i:Int}(h:cO p i):bU p i=cg p i:=by
 unfold bU cg;rw[if_pos h.1,if_pos h]
def gx {p:List Ent}{i:Int}(h:(bb p i).1=1):bU p i=bq p i:=by
 unfold bU bq;rw[if_neg (by omega),if_pos h]
abbrev KndP:=Int×Int
abbrev TrpP:=Int×Int×Int×Int
abbrev FrmP:=Int×List KndP×List KndP
abbrev FldP:=Int×Int×Int
abbrev MthP:=Int×Int×Int×Int×Int×List UInt8×List TrpP×List FrmP
abbrev ClsP:=List Ent×Int×Int×Int×List Int×List FldP×List MthP
def aO (f k:Int):Prop:=f / k % 2=1
instance (f k:Int):Decidable (aO f k):=inferInstanceAs (Decidable (_=_))
def fx (c:ClsP):Prop :=
 cO c.1 c.2.2.1/\cO c.1 c.2.2.2.1/\cg c.1 c.2.2.2.1≠cg c.1 c.2.2.1/\(0<=c.2.1/\c.2.1<=7) /\
 (∀i,i<c.2.2.2.2.1.length->cO c.1 (c.2.2.2.2.1.getD i 0)/\∀k,k<i->cg c.1 (c.2.2.2.2.1.getD k 0)≠cg c.1 (c.2.2.2.2.1.getD i 0)) /\
 ¬(aO c.2.1 2/\aO c.2.1 4)/\(aO c.2.1 1->aO c.2.1 4/\cg c.1 c.2.2.2.1=[79,98,106])
noncomputable instance (c:ClsP):Decidable (fx c):=Classical.propDecidable _
def C7 (c:ClsP)(i:Nat):Prop :=
 let f:=c.2.2.2.2.2.1.getD i (0,0,0)
 ch c.1 f.2.1 Nm/\ch c.1 f.2.2 Tok/\(0<=f.1/\f.1<=3)/\(aO c.2.1 1->f.1=1)/\∀k,k<i->bq c.1 (c.2.2.2.2.2.1.getD k (0,0,0)).2.1≠bq c.1 f.2.1
def jo (c:ClsP):Prop:=∀i,i<c.2.2.2.2.2.1.length->C7 c i
noncomputable instance (c:ClsP):Decidable (jo c):=Classical.propDecidable _
def aN:MthP:=(0,0,0,0,0,[],[],[])
def lG (c:ClsP)(m:MthP):Prop :=
 (0<=m.1/\m.1<=15)/\(bq c.1 m.2.1=[98,101,103,105,110]->m.1=1/\bq c.1 m.2.2.1=[40,41,86]) /\
 (aO m.1 8->m.1=8/\aO c.2.1 4)/\(¬aO m.1 8->aO c.2.1 1->m.1=1)
noncomputable instance (c:ClsP)(m:MthP):Decidable (lG c m):=Classical.propDecidable _
def yJ (c:ClsP)(i:Nat):Prop :=
 let m:=c.2.2.2.2.2.2.getD i aN
 ch c.1 m.2.1 Nm/\ch c.1 m.2.2.1 Dsc/\lG c m /\
 ∀k,k<i->¬(bq c.1 (c.2.2.2.2.2.2.getD k aN).2.1=bq c.1 m.2.1/\bq c.1 (c.2.2.2.2.2.2.getD k aN).2.2.1=bq c.1 m.2.2.1)
def km (c:ClsP):Prop:=∀i,i<c.2.2.2.2.2.2.length->yJ c i
noncomputable instance (c:ClsP):Decidable (km c):=Classical.propDecidable _
def a_ (op:Int):Int:=if op=1 then 2 else if 3<=op/\op<=6 then 1 else if 14<=op/\op<=29 then 2 else if 0<=op/\op<=34 then 0 else -1
def iD (op:Int):List UInt8->Int
 |[]=>0
 |[a]=>a.toNat
 |a::b::_=>if op=1/\32768<=(a.toNat:Int)*256+b.toNat then(a.toNat:Int)*256+b.toNat-65536 else(a.toNat:Int)*256+b.toNat
abbrev InsP:=Int×Int×Int
def d_:Nat->Int->List UInt8->Option (List InsP)
 |_,_,[]=>U []
 |0,_,_::_=>aj
 | k+1,a,x::l=>if a_ x.toNat<0\/(l.length:Int)<a_ x.toNat then aj
   else(d_ k (a+1+a_ x.toNat) (l.drop (a_ x.toNat).toNat)).map fun r=>(a,(x.toNat:Int),iD x.toNat (l.take (a_ x.toNat).toNat))::r
def bx (s:List UInt8):List InsP×Bool:=match d_ s.length 0 s with
 |some (x::r)=>(x::r,ad)
 |_=>([],ag)
def bf (l:List InsP)(a:Int):Int:=match l.findIdx? (fun x=>aa (x.1=a))with
 |some j=>j
 |none=>-1
def cx (op:Int):Int:=if op=19\/op=28\/op=29 then 2 else if 20<=op/\op<=23 then 4 else if 24<=op/\op<=26 then 5 else if op=27 then 6 else 0
def jq (p:List Ent)(locals:Int)(l:List InsP)(x:InsP):Prop :=
 (3<=x.2.1/\x.2.1<=6->x.2.2<locals)/\(14<=x.2.1/\x.2.1<=18->0<=bf l x.2.2)/\(cx x.2.1≠0->(bb p x.2.2).1=cx x.2.1)
noncomputable instance (p:List Ent)(locals:Int)(l:List InsP)(x:InsP):Decidable (jq p locals l x):=Classical.propDecidable _
def iE (p:List Ent)(n:Int)(l:List InsP)(t:TrpP):Prop :=
 t.1<t.2.1/\0<=bf l t.1/\(t.2.1=n\/0<=bf l t.2.1)/\0<=bf l t.2.2.1/\(t.2.2.2=0\/cO p t.2.2.2)
noncomputable instance (p:List Ent)(n:Int)(l:List InsP)(t:TrpP):Decidable (iE p n l t):=Classical.propDecidable _
def kW (p:List Ent)(k:KndP):Prop:=(0<=k.1/\k.1<=3)/\(k.1=3->cO p k.2)/\(k.1≠3->k.2=0)
noncomputable instance (p:List Ent)(k:KndP):Decidable (kW p k):=Classical.propDecidable _
def dO (p:List Ent)(l:List KndP):Prop:=∀k∈l,kW p k
noncomputable instance (p:List Ent)(l:List KndP):Decidable (dO p l):=Classical.propDecidable _
def qV (p:List Ent)(m:MthP)(l:List InsP)(i:Nat):Prop :=
 let f:=m.2.2.2.2.2.2.2.getD i (0,[],[])
 0<=bf l f.1/\(0<i->(m.2.2.2.2.2.2.2.getD (i-1) (0,[],[])).1<f.1)/\(f.2.1.length:Int)=m.2.2.2.2.1/\(f.2.2.length:Int)<=m.2.2.2.1/\dO p f.2.1/\dO p f.2.2
def pk (p:List Ent)(m:MthP)(l:List InsP):Prop:=∀i,i<m.2.2.2.2.2.2.2.length->qV p m l i
noncomputable instance (p:List Ent)(m:MthP)(l:List InsP):Decidable (pk p m l):=Classical.propDecidable _
noncomputable def lH (p:List Ent)(m:MthP):Int:=if aO m.1 1 then((ib (bq p m.2.2.1)).1.length:Int)else(ib (bq p m.2.2.1)).1.length+1
def eB (p:List Ent)(m:MthP):Prop :=
 (bx m.2.2.2.2.2.1).2=ad/\m.2.2.2.1<=8/\(lH p m<=m.2.2.2.2.1/\m.2.2.2.2.1<=8) /\
 (∀x∈(bx m.2.2.2.2.2.1).1,jq p m.2.2.2.2.1 (bx m.2.2.2.2.2.1).1 x)/\(∀t∈m.2.2.2.2.2.2.1,iE p m.2.2.2.2.2.1.length (bx m.2.2.2.2.2.1).1 t)/\pk p m (bx m.2.2.2.2.2.1).1
noncomputable instance (p:List Ent)(m:MthP):Decidable (eB p m):=Classical.propDecidable _
def mJ (c:ClsP):Prop:=∀m∈c.2.2.2.2.2.2,¬aO m.1 8->eB c.1 m
noncomputable instance (c:ClsP):Decidable (mJ c):=Classical.propDecidable _
noncomputable def cP (c:ClsP):Int:=if dZ c.1 c.1.length 0≠0 then 2 else if ¬fx c then 3 else if ¬jo c then 4 else if ¬km c then 5 else if ¬mJ c then 6 else 0
end
end Go.Stow
section
namespace Go.TM
open Go.AM
section
variable {α X Y R:Type}
def yK {f:X->Option (X⊕(Y⊕R))}(mk:Nat->X)(fin:Y)(no:R)(n:Nat)(p:Nat->Prop){x0:X}(hx:x0=mk 0){k:Y->Option R}{r:Option R}
  (hend:f (mk n)=U (.inr (.inl fin)))
  (hy:∀i,i<n->p i->f (mk i)=U (.inl (mk (i+1))))
  (hn:∀i,i<n->¬p i->f (mk i)=U (.inr (.inr no)))
  (hk:(∀i,i<n->p i)->k fin=r) (hno:¬(∀i,i<n->p i)->U no=r):bindE (aD f x0) k=r:=by
 have key:∀(m i:Nat),i+m=n->((∀j,i<=j->j<n->p j)->aD f (mk i)=U (.inl fin))/\(¬(∀j,i<=j->j<n->p j)->aD f (mk i)=U (.inr no)):=by
  intro m
  induction m with
  | zero=>
    intro i hi;have:i=n:=by omega
    subst this;rw[eJ,hend];exact⟨fun _=>rfl,fun h=>absurd (fun j h1 h2=>absurd h2 (by omega)) h⟩
  | succ m ih=>
    intro i hi;obtain⟨i1,i2⟩:=ih (i+1) (by omega);rw[eJ];by_cases hp:p i
    ·rw[hy i (by omega) hp];refine⟨fun h=>i1 fun j h1 h2=>h j (by omega) h2,fun h=>i2 fun h'=>h fun j h1 h2=>?_⟩;by_cases hj:j=i
     ·rw[hj];exact hp
     ·exact h' j (by omega) h2
    ·rw[hn i (by omega) hp];exact⟨fun h=>absurd (h i (bI _) (by omega)) hp,fun _=>rfl⟩
 obtain⟨k1,k2⟩:=key n 0 (by omega);rw[hx];by_cases h:∀i,i<n->p i
 ·rw[k1 fun j _ h2=>h j h2,aJ,hk h]
 ·rw[k2 fun h'=>h fun i hi=>h' i (by omega) hi,aT,hno h]
def C8 {f:X->Option (X⊕(Y⊕R))}(mk:Nat->X)(fin:Y)(l:List α)(p:α->Bool)(g:Nat->R){x0:X}(hx:x0=mk 0){k:Y->Option R}
  (hend:f (mk l.length)=U (.inr (.inl fin)))
  (hstep:∀i (h:i<l.length),f (mk i)=if p l[i]=ad then U (.inr (.inr (g i)))else U (.inl (mk (i+1)))) :
  bindE (aD f x0) k=match l.findIdx? p with|some j=>U (g j)|none=>k fin:=by
 have key:∀(m i:Nat),i+m=l.length->aD f (mk i)=U (match(l.drop i).findIdx? p with|some j=>.inr (g (i+j))|none=>.inl fin):=by
  intro m
  induction m with
  | zero=>
    intro i hi;have:i=l.length:=by omega
    subst this;rw[eJ,hend,List.drop_eq_nil_of_le (bI _)];rfl
  | succ m ih=>
    intro i hi;have h:i<l.length:=by omega
    rw[eJ,hstep i h,kg h,List.findIdx?_cons];by_cases hp:p l[i]=ad
    ·rw[if_pos hp,if_pos hp];rfl
    ·rw[if_neg hp,if_neg hp];simp only
     rw[ih (i+1) (by omega)];cases (l.drop (i+1)).findIdx? p with
     |none=>rfl
     |some j=>simp only[Option.map_some,aK];rw[show i+1+j=i+(j+1)by omega]
 rw[hx,key l.length 0 (by omega),List.drop_zero];cases l.findIdx? p with
 |none=>rfl
 |some j=>simp only[aT,Nat.zero_add]
end
end Go.TM
end
section
namespace Go.Stow
instance (b:UInt8):Decidable (fM b):=inferInstanceAs (Decidable (_\/_))
instance (b:UInt8):Decidable (iZ b):=inferInstanceAs (Decidable (_/\_))
def JZ {c:UInt8}:∀l:List UInt8,cut c l=match l.findIdx? (fun x=>aa (x=c))with|some j=>U (l.take j,l.drop (j+1))|none=>aj
 |[]=>rfl
 | x::l=>by
   rw[List.findIdx?_cons];unfold cut;by_cases hx:x=c
   ·simp[hx]
   ·rw[if_neg hx,if_neg (by simpa using hx),JZ l];cases l.findIdx? (fun x=>aa (x=c))<;>rfl
def yL {c:UInt8}:∀{a b:List UInt8},c ∉ a->Lib.indexByte (a++c::b) c=a.length
 |[],b,_=>by simp[Lib.indexByte]
 | x::a,b,h=>by
   simp only[List.mem_cons,not_or]at h;have:=yL (b:=b) h.2;have hx:(x==c)=ag:=by simpa using fun e:x=c=>h.1 e.symm
   have h1:(((a.length:Int)) == -1)=ag:=by simp<;>omega
   simp only[cD,Lib.indexByte,hx,cS,if_false,this,bD,h1]
   omega
def C9 {c:UInt8}:∀{l:List UInt8},c ∉ l->Lib.indexByte l c = -1
 |[],_=>rfl
 | x::l,h=>by
   simp only[List.mem_cons,not_or]at h;have hx:(x==c)=ag:=by simpa using fun e:x=c=>h.1 e.symm
   simp only[Lib.indexByte,hx,cS,if_false,C9 h.2,beq_self_eq_true,if_true]
end Go.Stow
namespace Go.TM
open Go.AM
section
variable {X Y R:Type}
def nQ {f:X->Option (X⊕Y)}{x x':X}(h:f x=U (.inl x')):aD f x=aD f x':=by rw[eJ,h]
def iF {f:X->Option (X⊕Y)}{x:X}{y:Y}(h:f x=U (.inr y)):aD f x=U y:=by rw[eJ,h]
end
end Go.TM
namespace Go.Proofs.YtdpapeledldifaaGreat
open Go Go.AM Go.TM Go.Stow
def i4 (n a b:Int):eN (n,a,b)=U (aa (a<=n/\n<=b)):=by
 simp only[eN,aF]
 by_cases h:a<=n<;>simp[h]
def jr (n a b:Int):fJ (n,a,b)=U (aa (a<=n/\n<=b)):=i4 n a b
def J0 (b:UInt8):wZ (b.toNat:Int)=U (aa (fM b)):=by
 simp only[wZ,aF]
 repeat' split
 all_goals
  rw[aK,Bool.eq_iff_iff,decide_eq_true_iff (p:=fM b)];simp only[fM,aI,true_iff,cS,false_iff]
  omega
def qW (s:List UInt8)(hl:s.length<=1048576):mn s=U (aa (Nm s)):=by
 simp only[mn]
 refine yK (fun i=>(s,(i:Int))) s ag s.length (fun i=>∀h:i<s.length,fM s[i]\/(i≠0/\iZ s[i])) rfl ?_ ?_ ?_ ?_ ?_
 ·simp only[bG,bm,aQ]
 ·intro i h hp;have hp:=hp h;have hi:(i:Int)<s.length:=by omega
  have h0:(0:Int)<=i:=by omega
  simp (discharger:=omega) only[hi,h0,ay,aP,aC,aY,bE,J0,av,bT,aF]
  by_cases hq:fM s[i]
  ·simp (discharger:=omega) only[hq,if_true,aJ,wI];rfl
  ·have hd:=hp.resolve_left hq;have hi0:¬(i:Int)=0:=by omega
   have hd1:¬(s[i].toNat:Int)<48:=by have:=hd.2.1;omega
   have hd2:¬(57:Int)<s[i].toNat:=by have:=hd.2.2;omega
   simp (discharger:=omega) only[hq,if_false,hi0,hd1,hd2,aJ,wI];rfl
 ·intro i h hp;have hp:¬(fM s[i]\/(i≠0/\iZ s[i])):=fun e=>hp fun _=>e
  have hi:(i:Int)<s.length:=by omega
  have h0:(0:Int)<=i:=by omega
  simp (discharger:=omega) only[hi,h0,ay,aP,aC,aY,bE,J0,av,bT,aF]
  have hq:¬fM s[i]:=fun e=>hp (.inl e)
  simp only[hq,if_false]
  by_cases hi0:(i:Int)=0
  ·simp only[hi0,if_true,aT]
  ·by_cases hd1:(s[i].toNat:Int)<48
   ·simp only[hi0,hd1,if_true,if_false,aT]
   ·by_cases hd2:(57:Int)<s[i].toNat
    ·simp only[hi0,hd1,hd2,if_true,if_false,aT]
    ·exact absurd (.inr ⟨by omega,by omega,by omega⟩) hp
 ·intro h;rw[i4,av];congr 1;rw[decide_eq_decide];exact⟨fun⟨h1,h2⟩=>⟨⟨by omega,by omega⟩,fun i hi=>h i hi hi⟩,fun hn=>⟨by have:=hn.1;omega,by have:=hn.1;omega⟩⟩
 ·intro h;rw[eq_comm];simp only[aK,bN]
  exact fun hn=>h fun i _ hi=>hn.2 i hi
def C_ (s:List UInt8)(hl:s.length<=1048576):qI s=U (aa (Nm s)):=by
 simp only[qI,jr,av,bT,aF]
 by_cases hr:(1:Int)<=s.length/\(s.length:Int)<=8
 ·rw[if_pos hr];have h0:0<s.length:=by omega
  simp (discharger:=omega) only[bE]
  by_cases hd:(48:Int)<=s[0].toNat/\(s[0].toNat:Int)<=57
  ·simp only[hd.1,hd.2,if_true,aT,aK,eq_comm (a:=ag),bN]
   intro hn;have:=hn.2 0 h0;simp only[fM,iZ]at this;omega
  ·rw[show(if(48:Int)<=s[0].toNat then if(s[0].toNat:Int)<=57 then U (Sum.inr ag)else U (Sum.inl s)else U (Sum.inl s):Option (List UInt8⊕Bool))=U (Sum.inl s)by
    split
    ·split
     ·rename_i a b;exact absurd ⟨a,b⟩ hd
     ·rfl
    ·rfl]
   rw[aJ];refine yK (fun i=>(s,(s.length:Int),(i:Int))) () ag s.length (fun i=>∀h:i<s.length,fM s[i]\/iZ s[i]) rfl ?_ ?_ ?_ ?_ ?_
   ·simp only[bG,if_false]
   ·intro i h hp;have hp:=hp h;have hi:(i:Int)<s.length:=by omega
    have hi0:(0:Int)<=i:=by omega
    have hw:IntKind.wrap .i64 ((i:Int)+1)=((i+1:Nat):Int):=by rw[wI (by omega) (by omega)];omega
    simp (discharger:=omega) only[hi,hi0,ay,if_true,aC,aY,bE,eg,aJ,aT,hw]
    generalize s[i]=b at hp;simp only[fM,iZ]at hp
    repeat' split
    all_goals first|rfl|(exfalso;omega)
   ·intro i h hp;have hp:¬(fM s[i]\/iZ s[i]):=fun e=>hp fun _=>e
    have hi:(i:Int)<s.length:=by omega
    have hi0:(0:Int)<=i:=by omega
    simp (discharger:=omega) only[hi,hi0,ay,if_true,aC,aY,bE,eg,aJ,aT]
    generalize s[i]=b at hp;simp only[fM,iZ]at hp
    repeat' split
    all_goals first|rfl|(exfalso;omega)
   ·intro h;rw[eq_comm];simp only[aK,aI]
    refine⟨⟨by omega,by omega⟩,fun i hi=>?_⟩;rcases h i hi hi with hq|hq
    ·exact .inl hq
    ·by_cases h00:i=0
     ·subst h00;exact absurd ⟨by have:=hq.1;omega,by have:=hq.2;omega⟩ hd
     ·exact .inr ⟨h00,hq⟩
   ·intro h;rw[eq_comm];simp only[aK,bN]
    exact fun hn=>h fun i _ hi=>(hn.2 i hi).imp id fun hq=>hq.2
 ·rw[if_neg hr,aT,eq_comm];simp only[aK,bN]
  exact fun hn=>hr ⟨by have:=hn.1;omega,by have:=hn.1;omega⟩
end Go.Proofs.YtdpapeledldifaaGreat
end
namespace Go.Proofs.YtdpapeledldifaaGreat
section
open Go Go.AM Go.TM Go.Stow
def t6 (b:UInt8)(n:Nat)(h:n<256):((b.toNat:Int)=(n:Int))=(b=UInt8.ofNat n):=by
 apply propext;constructor
 ·intro e;have e:b.toNat=n:=by omega
  rw[<-e,UInt8.ofNat_toNat]
 ·intro e;subst e;rw[UInt8.toNat_ofNat_of_lt' h]
def u41 (b:UInt8):((b.toNat:Int)=41)=(b=41):=t6 b 41 (by omega)
def u40 (b:UInt8):((b.toNat:Int)=40)=(b=40):=t6 b 40 (by omega)
def u59 (b:UInt8):((b.toNat:Int)=59)=(b=59):=t6 b 59 (by omega)
def Da (b:UInt8):((b.toNat:Int)=73)=(b=73):=t6 b 73 (by omega)
def u76 (b:UInt8):((b.toNat:Int)=76)=(b=76):=t6 b 76 (by omega)
def J1 {α:Type}{s t r:List α}{n:Nat}(h:s.drop n=t++r):(s.take (n+t.length)).drop n=t/\s.drop (n+t.length)=r:=by
 constructor
 ·rw[List.drop_take,h,show n+t.length-n=t.length by omega,List.take_left'];rfl
 ·rw[<-List.drop_drop,h,List.drop_left'];rfl
def J2 {α:Type}{s t r:List α}{n:Nat}(hn:n<=s.length)(h:s.drop n=t++r):n+t.length+r.length=s.length:=by
 have:=congrArg au h;simp only[dF,aR]at this;omega
def Db (s:List UInt8)(a:Nat)(hl:s.length<=1048576)(ha:a<=s.length):qD (s,(a:Int))=U (match Stow.one (s.drop a)with|some (t,_)=>((a+t.length:Nat):Int)|none=>-1):=by
 have h0:(0:Int)<=a:=by omega
 by_cases hlt:(a:Int)<s.length
 ·have hn:a<s.length:=by omega
  have hle:¬((s.length:Int)<=a):=by omega
  simp (discharger:=omega) only[qD,hlt,hle,ay,bm,aP,aQ,aC,h0,aY,bE,bT,aF,Da,u76,wI]
  rw[kg hn,C3];by_cases h73:s[a]=73
  ·rw[if_pos h73,if_pos h73,aT];simp only[List.length_singleton]
   rfl
  ·rw[if_neg h73,if_neg h73,aJ];simp (discharger:=omega) only[hle,if_false,h0,ay,aC,aY,bE]
   by_cases h76:s[a]=76
   ·rw[if_pos h76,if_pos h76];simp only[aJ]
    refine(C8 (fun j=>(s,(a:Int),((a+1+j:Nat):Int))) () (s.drop (a+1)) (fun x=>aa (x=59)) (fun j=>if Nm ((s.drop (a+1)).take j)then((a+1+j+1:Nat):Int)else -1) ?_ ?_ ?_).trans ?_
    ·rw[wI (by omega) (by omega)];rfl
    ·have:¬(((a+1+(s.drop (a+1)).length:Nat):Int)<s.length):=by simp only[dF];omega
     simp only[this,if_false]
    ·intro j hj;have hj':a+1+j<s.length:=by simp only[dF]at hj;omega
     have hi:((a+1+j:Nat):Int)<s.length:=by omega
     have hi0:(0:Int)<=((a+1+j:Nat):Int):=by omega
     have hg1:(0:Int)<=(a:Int)+1:=by omega
     have hg2:(a:Int)+1<=((a+1+j:Nat):Int):=by omega
     have hg3:((a+1+j:Nat):Int)<=s.length:=by omega
     have ht:((a:Int)+1).toNat=a+1:=by omega
     have hd:(s.take (a+1+j)).drop (a+1)=(s.drop (a+1)).take j:=by rw[List.drop_take];congr 1;omega
     have hb:((s.drop (a+1)).take j).length<=1048576:=by simp only[cA,dF];omega
     have hg:(s.drop (a+1))[j]=s[a+1+j]:=by simp
     simp (discharger:=omega) only[hi,hi0,hg1,hg2,hg3,if_true,ay,bp,aP,aC,ht,aY,bE,u59,aF,hd,qW _ hb,av,wI,aI,hg]
     by_cases hx:s[a+1+j]=59
     ·rw[if_pos hx,if_pos hx];by_cases hm:Nm ((s.drop (a+1)).take j)
      ·rw[if_pos hm,if_pos hm];rfl
      ·rw[if_neg hm,if_neg hm]
     ·rw[if_neg hx,if_neg hx];rfl
    ·rw[JZ];cases hf:(s.drop (a+1)).findIdx? (fun x=>aa (x=59))with
     |none=>rfl
     | some j=>
       simp only[bh]
       have hj:=(List.findIdx?_eq_some_iff_getElem.1 hf).1;by_cases hm:Nm ((s.drop (a+1)).take j)
       ·rw[if_pos hm,if_pos hm];simp only[bD,aR,cA,cW]
        rw[Nat.min_eq_left (by omega)];congr 1;omega
       ·rw[if_neg hm,if_neg hm]
   ·rw[if_neg h76,if_neg h76];rfl
 ·have hle:(s.length:Int)<=a:=by omega
  simp only[qD,hlt,hle,ay,bm,aP,aQ,aJ,aT]
  rw[List.drop_eq_nil_of_le (by omega)];rfl
def qX (s:List UInt8)(hl:s.length<=1048576):mq s=U (aa (Tok s)):=by
 simp only[mq,aF]
 by_cases h:(0:Int)<s.length
 ·have e:=Db s 0 hl (by omega);rw[if_pos h];rw[show((0:Int))=((0:Nat):Int)from rfl,e,av,List.drop_zero];congr 1;rw[decide_eq_decide];cases ho:Stow.one s with
  | none=>
    simp only
    constructor
    ·intro h;omega
    ·intro ht;rw[JT,ho]at ht;cases ht
  | some p=>
    obtain⟨t,r⟩:=p;obtain⟨h1,h2⟩:=kT ho;simp only[Nat.zero_add]
    constructor
    ·intro hh
     have:r=[]:=by
      have:=congrArg au h1;rw[aR]at this;exact List.length_eq_zero_iff.1 (by omega)
     rw[this,cN]at h1;rw[h1];exact h2
    ·intro ht;rw[JT,ho]at ht;simp only[aK,bH]at ht;rw[ht.1]
 ·rw[if_neg h,eq_comm];have:s=[]:=List.length_eq_zero_iff.1 (by omega);subst this;simp only[aK,bN]
  exact t5
def zUf {X Y R:Type}{f:X->Option (X⊕(Y⊕R))}{k:Y->Option R}(s:List UInt8)(mk:List (List UInt8)->Nat->X)(bad:R)(good:List (List UInt8)->List UInt8->R)
  (hend:∀out a,s.length<=a->bindE (aD f (mk out a)) k=U bad)
  (h41:∀out a (h:a<s.length),s[a]=41->bindE (aD f (mk out a)) k=U (good out (s.drop (a+1))))
  (hbad:∀out a (h:a<s.length),s[a]≠41->(Stow.one (s.drop a)=aj\/4<=out.length)->bindE (aD f (mk out a)) k=U bad)
  (hstep:∀out a t r (h:a<s.length),s[a]≠41->Stow.one (s.drop a)=U (t,r)->out.length<4->f (mk out a)=U (.inl (mk (out++[t]) (a+t.length)))) :
  ∀(n a:Nat) (out:List (List UInt8)),out.length+n=4->a<=s.length->bindE (aD f (mk out a)) k=U (match more n (s.drop a)with|some (ts,b)=>good (out++ts) b|none=>bad):=by
 intro n
 induction n with
 | zero=>
   intro a out ho ha;by_cases h:a<s.length
   ·rw[kg h];simp only[more]
    by_cases hx:s[a]=41
    ·rw[if_pos hx,h41 out a h hx];simp only[cN]
    ·rw[if_neg hx,hbad out a h hx (.inr (by omega))]
   ·rw[hend out a (by omega),List.drop_eq_nil_of_le (by omega)];rfl
 | succ n ih=>
   intro a out ho ha;by_cases h:a<s.length
   ·rw[kg h,yI];by_cases hx:s[a]=41
    ·rw[if_pos hx,h41 out a h hx];simp only[cN]
    ·rw[if_neg hx,<-kg h];cases hone:Stow.one (s.drop a)with
     |none=>rw[hbad out a h hx (.inl hone)];rfl
     | some p=>
       obtain⟨t,r⟩:=p;have hds:=J1 (kT hone).1;have hdl:=J2 ha (kT hone).1;rw[nQ (hstep out a t r h hx hone (by omega)),ih (a+t.length) (out++[t]) (by simp;omega) (by omega),hds.2];simp only[bh]
       cases more n r with
       |none=>rfl
       |some q=>simp only[Option.map_some,b_,List.singleton_append]
   ·rw[hend out a (by omega),List.drop_eq_nil_of_le (by omega)];rfl
noncomputable def t7 (ts:List (List UInt8))(back:List UInt8):List (List UInt8)×List UInt8×Bool:=if back=[86]\/Tok back then(ts,back,ad)else([],[],ag)
def yM (x:UInt8)(l:List UInt8):ib (x::l)=if x=40 then(match more 4 l with|some (ts,b)=>t7 ts b|none=>([],[],ag))else([],[],ag):=by
 simp only[ib]
 split
 ·cases more 4 l with
  |none=>rfl
  |some p=>rfl
 ·rfl
def Dc (s:List UInt8)(hl:s.length<=1048576):qF s=U (ib s):=by
 cases hs:s with
 |nil=>rfl
 | cons x l=>
   have hne:¬(((x::l).length:Int)=0):=by simp only[bD];omega
   have hpos:0<(x::l).length:=by simp
   rw[yM];simp (discharger:=assumption) only[qF,hne,bm,aQ,bE,bT,aF,u40,u41,List.getElem_cons_zero]
   by_cases h40:x=40
   ·rw[if_pos h40,if_pos h40,aJ];rw[<-hs];have hd1:s.drop 1=l:=by rw[hs];rfl
    rw[<-hd1];refine zUf s (fun out a=>(s,out,(a:Int))) ([],[],ag) t7 ?_ ?_ ?_ ?_ 4 1 [] rfl (by rw[hs];simp)
    ·intro out a ha;have h1:¬((a:Int)<s.length):=by omega
     have h2:(s.length:Int)<=a:=by omega
     rw[iF (y:=.inl (s,out,(a:Int))) (by simp only[h1,if_false,aT])];simp only[aJ,h2,if_true]
    ·intro out a h hx;have h1:(a:Int)<s.length:=by omega
     have h2:¬(s.length:Int)<=a:=by omega
     have h0:(0:Int)<=a:=by omega
     rw[iF (y:=.inl (s,out,(a:Int))) (by simp (discharger:=omega) only[h1,if_true,h0,ay,aC,aY,bE,hx,aT])];have ht:((a:Int)+1).toNat=a+1:=by omega
     have hg1:(0:Int)<=(a:Int)+1:=by omega
     have hg2:(a:Int)+1<=s.length:=by omega
     have hb:(s.drop (a+1)).length<=1048576:=by simp only[dF];omega
     simp (discharger:=omega) only[aJ,h2,if_false,wI,ht,hg1,hg2,Int.le_refl,ay,bp,aC,aY,List.take_length,qX _ hb,av,aF,t7]
     by_cases hv:s.drop (a+1)=[86]
     ·simp only[hv,if_true,true_or]
     ·by_cases htk:Tok (s.drop (a+1))<;>simp only[hv,htk,if_true,if_false,false_or]
    ·intro out a h hx hh;have h1:(a:Int)<s.length:=by omega
     have h0:(0:Int)<=a:=by omega
     rw[iF (y:=.inr ([],[],ag))]
     ·rfl
     ·simp (discharger:=omega) only[h1,if_true,h0,ay,aC,aY,bE,hx,if_false,aJ,Db s a hl (by omega),av]
      cases ho:Stow.one (s.drop a)with
      |none=>rfl
      | some p=>
        obtain⟨t,r⟩:=p;rcases hh with hh|hh
        ·rw[ho]at hh;cases hh
        ·have q1:¬(((a+t.length:Nat):Int)<0):=by omega
         have q2:(4:Int)<=out.length:=by omega
         simp only[q1,q2,if_true,if_false,aT]
    ·intro out a t r h hx ho hlt;have h1:(a:Int)<s.length:=by omega
     have h0:(0:Int)<=a:=by omega
     have hds:=J1 (kT ho).1;have hdl:=J2 (by omega) (kT ho).1;have q1:¬(((a+t.length:Nat):Int)<0):=by omega
     have q2:¬(4:Int)<=out.length:=by omega
     have q3:(a:Int)<=((a+t.length:Nat):Int):=by omega
     have q4:((a+t.length:Nat):Int)<=s.length:=by omega
     have q5:out.length+1<=9223372036854775807:=by omega
     have q6:(out.length+1)*16<=140737488355328:=by omega
     simp (discharger:=omega) only[h1,if_true,h0,ay,aC,aY,bE,hx,if_false,aJ,Db s a hl (by omega),av,ho,q1,q2,q3,q4,q5,q6,bp,hds.1]
   ·rw[if_neg h40,if_neg h40,aT]
def yN (s:List UInt8)(hl:s.length<=1048576):o6 s=U (aa (Dsc s)):=by
 simp only[o6,Dc s hl,av]
 congr 1;rw[Bool.eq_iff_iff,decide_eq_true_iff];exact Iff.rfl
end
end Go.Proofs.YtdpapeledldifaaGreat
