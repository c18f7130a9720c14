/- Part 30 of the proof of FnTidyAll; no condition. -/
import Derived.Test.YtmjlecabpbiigaaGreatX28
open Option renaming some -> U
open Decidable renaming decide -> aa
open Bool renaming true -> ae
open Bool renaming false -> ag
open Option renaming none -> aj
open Sum renaming inr -> an
open Sum renaming inl -> ao
open List renaming length -> au
open Int renaming toNat -> aw
open List renaming drop -> cU
open List renaming take -> de
set_option autoImplicit true
set_option relaxedAutoImplicit true
set_option linter.all false
section
namespace Go.Proofs.YtmjlecabpbiigaaGreat
open Go Go.AM Go.TM
end Go.Proofs.YtmjlecabpbiigaaGreat
namespace Go.TM
open Go.AM
section
variable {σ α β Z:Type}
def St (Re:σ->Option (List UInt8)->Prop)(q:Option Z)(mk:β->σ->Z)(m:Option (β×List UInt8)):Prop :=
 ∃v s,q=U (mk v s)/\Re s (m.map (·.2))/\∀v' l,m=U (v',l)->v=v'
variable {Re:σ->Option (List UInt8)->Prop}
def gf {F:Option (α×σ)}{g:List UInt8->Option (α×List UInt8)}{st:Option (List UInt8)}{k:α×σ->Option Z}{mk:β->σ->Z}{k':α->List UInt8->Option (β×List UInt8)}
  (hF:Sm Re F (st.bind g)) (hk:∀v s' st',Re s' st'->St Re (k (v,s')) mk (st'.bind (k' v))) :
  St Re (ah F k) mk (st.bind fun l=>(g l).bind fun p=>k' p.1 p.2):=by
 have e:(st.bind fun l=>(g l).bind fun p=>k' p.1 p.2)=(st.bind g).bind fun p=>k' p.1 p.2:=by cases st<;>rfl
 rw[e];obtain⟨v,s,hr,h1,h2⟩:=hF;rw[hr,ax];have:=hk v s _ h1;cases hm:st.bind g with
 |none=>rw[hm]at this;exact this
 | some p=>
   rw[hm]at this h2;have e:=h2 p.1 p.2 rfl;subst e;exact this
def uK {F:Option (β×σ)}{g:List UInt8->Option (β×List UInt8)}{st:Option (List UInt8)}{k:β×σ->Option Z}{mk:β->σ->Z}(hF:Sm Re F (st.bind g))(hk:∀ v s',k (v,s')=U (mk v s')):St Re (ah F k) mk (st.bind g):=by
 obtain⟨v,s,hr,h1,h2⟩:=hF;rw[hr,ax,hk];exact⟨v,s,rfl,h1,h2⟩
def St.ret {s:σ}{st:Option (List UInt8)}{mk:β->σ->Z}(h:Re s st)(v:β):St Re (U (mk v s)) mk (st.bind fun l=>U (v,l)):=by
 refine⟨v,s,rfl,?_,fun v' l hl=>?_⟩
 ·cases st with
  |none=>exact h
  |some l=>exact h
 ·cases st with
  |none=>cases hl
  |some l=>simp only[bh,aF,bm]at hl;exact hl.1
end
end Go.TM
namespace Go.Proofs.YtmjlecabpbiigaaGreat
open Go Go.AM Go.TM
def jZ {β γ:Type}(most:Int)(g:List UInt8->Option (β×List UInt8))(K:List β->List UInt8->Option (γ×List UInt8)) :
  (fun l=>(cP most g l).bind fun p=>K p.1 p.2)=fun l=>(g1 l).bind fun p=>if most<p.1 then aj else(bR g p.1.toNat p.2).bind fun q=>K q.1 q.2:=by
 funext l;unfold cP;cases g1 l with
 |none=>rfl
 |some p=>simp only[bh];split<;>rfl
def Kg {β:Type}(m:List UInt8->Option (β×List UInt8)):(fun l=>(m l).bind fun p=>U (p.1,p.2))=m:=by funext l;cases m l<;>rfl
def j4 {most v:Int}{st st1:Option (List UInt8)}(e1:∀ l',st1=U l'->∃ l,st=U l/\g1 l=U (v,l')){l:List UInt8}(hl:(if most<v then aj else st1)=U l):0<=v/\v<=most:=by
 split at hl
 ·cases hl
 ·obtain⟨_,_,hg⟩:=e1 l hl;have:=f8 hg;omega
def eh (l:List UInt8):Option (Knd×List UInt8):=(g1 l).bind fun p=>if p.1=3 then(g2 p.2).bind fun q=>U ((3,q.1),q.2)else if 3<p.1 then aj else U ((p.1,0),p.2)
def iK (l:List UInt8):Option (Trp×List UInt8):=(g2 l).bind fun p=>(g2 p.2).bind fun q=>(g2 q.2).bind fun r=>(g2 r.2).bind fun s=>U ((p.1,q.1,r.1,s.1),s.2)
def iL (l:List UInt8):Option (Frm×List UInt8):=(g2 l).bind fun p=>(cP 8 eh p.2).bind fun q=>(cP 8 eh q.2).bind fun r=>U ((p.1,q.1,r.1),r.2)
def iM (l:List UInt8):Option (Fld×List UInt8):=(g1 l).bind fun p=>(g2 p.2).bind fun q=>(g2 q.2).bind fun r=>U ((p.1,q.1,r.1),r.2)
def gR (y:Int):Prop:=Int.tdiv (Int.tmod y 16) 8=1
instance (y:Int):Decidable (gR y):=inferInstanceAs (Decidable (Int.tdiv (Int.tmod y 16) 8=1))
def b7 (f n d s lo:Int)(code:List UInt8)(tr:List Trp)(l:List UInt8):Option (Mth×List UInt8):=(cP 8 iL l).bind fun p=>U ((f,n,d,s,lo,code,tr,p.1),p.2)
def b6 (f n d s lo:Int)(code:List UInt8)(l:List UInt8):Option (Mth×List UInt8):=(cP 3 iK l).bind fun p=>b7 f n d s lo code p.1 p.2
def b5 (f n d s lo c:Int)(l:List UInt8):Option (Mth×List UInt8):=if 120<c then aj else(gT c l).bind fun p=>b6 f n d s lo p.1 p.2
def b4 (f n d s lo:Int)(l:List UInt8):Option (Mth×List UInt8):=(g2 l).bind fun p=>b5 f n d s lo p.1 p.2
def b3 (f n d s:Int)(l:List UInt8):Option (Mth×List UInt8):=(g1 l).bind fun p=>b4 f n d s p.1 p.2
def rf (f n d:Int)(l:List UInt8):Option (Mth×List UInt8):=(g1 l).bind fun p=>b3 f n d p.1 p.2
def m3 (f n d:Int)(l:List UInt8):Option (Mth×List UInt8):=if gR f then U ((f,n,d,0,0,[],[],[]),l)else rf f n d l
def m2 (f n:Int)(l:List UInt8):Option (Mth×List UInt8):=(g2 l).bind fun p=>m3 f n p.1 p.2
def m1 (f:Int)(l:List UInt8):Option (Mth×List UInt8):=(g2 l).bind fun p=>m2 f p.1 p.2
def f9 (l:List UInt8):Option (Mth×List UInt8):=(g1 l).bind fun p=>m1 p.1 p.2
def j5 (pool:List Cst)(f n s:Int)(fa:List Int)(fi:List Fld)(l:List UInt8):Option (Cls×List UInt8):=(cP 6 f9 l).bind fun p=>U ((pool,f,n,s,fa,fi,p.1),p.2)
def ik (pool:List Cst)(f n s:Int)(fa:List Int)(l:List UInt8):Option (Cls×List UInt8):=(cP 5 iM l).bind fun p=>j5 pool f n s fa p.1 p.2
def y_ (pool:List Cst)(f n s:Int)(l:List UInt8):Option (Cls×List UInt8):=(cP 3 g2 l).bind fun p=>ik pool f n s p.1 p.2
def f_ (pool:List Cst)(f n:Int)(l:List UInt8):Option (Cls×List UInt8):=(g2 l).bind fun p=>y_ pool f n p.1 p.2
def mM (pool:List Cst)(f:Int)(l:List UInt8):Option (Cls×List UInt8):=(g2 l).bind fun p=>f_ pool f p.1 p.2
def jf (pool:List Cst)(l:List UInt8):Option (Cls×List UInt8):=(g1 l).bind fun p=>mM pool p.1 p.2
def lg (l:List UInt8):Option (Cls×List UInt8):=(cP 60 gy l).bind fun p=>jf p.1 p.2
def iN (t:List UInt8)(l:List UInt8):Option (Cls×List UInt8):=if ¬t=[83,84,79,87]then aj else lg l
def fh (l:List UInt8):Option (Cls×List UInt8):=(gT 4 l).bind fun p=>iN p.1 p.2
def Kh {s0:List UInt8}(s:List UInt8×Int×Bool)(st:Option (List UInt8))(h:dw s0 s st):Sm (dw s0) (tt s) (st.bind (cP 8 eh)):=by
 obtain⟨o0,o1,o2⟩:=s;simp only[tt]
 rw[<-Kg (cP 8 eh),jZ 8 eh fun p l=>U (p,l)];refine ct (ic _ st h) (k':=fun n l=>if 8<n then aj else(bR eh n.toNat l).bind fun q=>U (q.1,q.2)) fun v ⟨a,b,c⟩ st1 h1 e1=>?_
 simp only[mL]
 rw[show(if(8:Int)<v then(([]:List Knd),v,a,b,ae)else([],v,a,b,c))=([],v,a,b,if 8<v then ae else c)by split<;>rfl];simp only
 rw[gx];have h2:=h1.cut (8<v);refine Sm.loop (fun out i s=>(out,v,(i:Int),s)) (fun out s=>(out,s)) v.toNat eh h2 (k':=fun p l=>U (p,l)) rfl ?_ ?_ ?_
 ·intro out i ⟨a,b,c⟩ hs;have:=hs.2.2.2.2.1 rfl;simp only at this;subst this;by_cases hi:(i:Int)<v<;>simp only[hi,ay,bc,aN,aM,Bool.not_true,aV]
 ·intro l hl;have hv:=j4 e1 hl;refine⟨fun out ⟨a,b,c⟩ l hs=>?_,fun out i ⟨a,b,c⟩ l hi ho hs=>?_⟩
  ·have hi:¬((v.toNat:Int)<v):=by omega
   simp only[hi,bc,aM,aV]
  ·have hi':(i:Int)<v:=by omega
   have hc:=(hs.2.2.2.2.2 l rfl).1;simp only at hc;subst hc;simp only[hi',ay,aN,Bool.not_false,aJ]
   have hk:Sm (dw s0) (ah (fA (a,b,ag)) fun x=>match x with
     | (y4,y5,y6,y7)=>bindE (Y:=(Int×Int)×List UInt8×Int×Bool) (ai (aa (y4=3)) (ah (e_ (y5,y6,y7)) fun x=>match x with|(y8,y9,y10,y11)=>U (.inl ((y4,y8),y9,y10,y11))) (U (.inl ((y4,0),y5,y6,y7))))
       fun x=>match x with|((o04,o14),o05,o15,o24)=>ai (aa (3<o04)) (U ((o04,o14),o05,o15,ae)) (U ((o04,o14),o05,o15,o24))) ((U l).bind eh):=by
    refine ct (ic _ _ hs) (k':=fun p l=>if p=3 then(g2 l).bind fun q=>U ((3,q.1),q.2)else if 3<p then aj else U ((p,0),l)) fun w ⟨a2,b2,lg⟩ st2 h2 e2=>?_
    simp only[aG,fC]
    by_cases hw:w=3
    ·subst hw;simp only[↓reduceIte,kB,aJ,bH]
     exact ct (ie _ st2 h2) (k':=fun q l=>U ((3,q),l)) fun n ⟨a3,b3,jf⟩ st3 h3 e3=>Sm.ret h3 _
    ·simp only[hw,↓reduceIte,aJ]
     rw[gx];by_cases h3:3<w
     ·simp only[h3,↓reduceIte]
      exact⟨_,_,rfl,h2.bad,fun _ _ h=>by cases h⟩
     ·simp only[h3,↓reduceIte]
      exact Sm.ret h2 _
   refine hk.one (mk:=fun w s=>(out++[w],v,((i+1:Nat):Int),s)) fun w s' hr=>?_
   rcases h221:fA (a,b,ag)with _|⟨y4,y5,y6,y7⟩
   ·rw[h221]at hr;cases hr
   ·rw[h221]at hr;simp only[ax,aG,fC]at hr ⊢;have ho1:out.length+1<=9223372036854775807:=by omega
    have ho2:(out.length+1)*16<=140737488355328:=by omega
    have hwi:IntKind.wrap .i64 ((i:Int)+1)=((i+1:Nat):Int):=by rw[wI (by omega) (by omega)];omega
    by_cases hy:y4=3
    ·subst hy;simp only[↓reduceIte,kB,aJ,bH]at hr ⊢;rcases h222:e_ (y5,y6,y7)with _|⟨y8,y9,y10,y11⟩
     ·rw[h222]at hr;cases hr
     ·rw[h222]at hr;simp only[ax,aF,bm]at hr ⊢;obtain⟨rfl,rfl⟩:=hr;simp only[ho1,ho2,ay,ck,aD,aJ,hwi]
    ·simp only[hy,↓reduceIte,aJ]at hr ⊢;by_cases h3:3<y4
     ·simp only[h3,↓reduceIte,aF,bm]at hr ⊢;obtain⟨rfl,rfl⟩:=hr;simp only[ho1,ho2,ay,ck,aD,aJ,hwi]
     ·simp only[h3,↓reduceIte,aF,bm]at hr ⊢;obtain⟨rfl,rfl⟩:=hr;simp only[ho1,ho2,ay,ck,aD,aJ,hwi]
 ·intro out ⟨a,b,c⟩ st' hs;exact Sm.ret hs _
def zbH {s0:List UInt8}(vf vn vd:Int)(s:List UInt8×Int×Bool)(st:Option (List UInt8))(h:dw s0 s st):Sm (dw s0) (xv ((vf,vn,vd,0,0,[]),s)) (st.bind (rf vf vn vd)):=by
 obtain⟨o0,o1,o2⟩:=s;simp only[xv]
 refine ct (ic _ st h) (k':=b3 vf vn vd) fun vs ⟨a,b,c⟩ st1 h1 e1=>?_
 refine ct (ic _ st1 h1) (k':=b4 vf vn vd vs) fun vl ⟨a,b,c⟩ st2 h2 e2=>?_
 refine ct (ie _ st2 h2) (k':=b5 vf vn vd vs vl) fun v ⟨a,b,c⟩ st3 h3 e3=>?_
 show Sm _ _ (st3.bind fun l=>if 120<v then aj else(gT v l).bind fun p=>b6 vf vn vd vs vl p.1 p.2);simp only[mL]
 rw[show(if(120:Int)<v then(v,(vf,vn,vd,vs,vl,([]:List UInt8),([]:List Trp),([]:List Frm)),((0:Int),(0:Int),(0:Int),(0:Int),(0:Int),([]:List UInt8),([]:List Trp),([]:List Frm)),a,b,ae)else(v,(vf,vn,vd,vs,vl,([]:List UInt8),([]:List Trp),([]:List Frm)),((0:Int),(0:Int),(0:Int),(0:Int),(0:Int),([]:List UInt8),([]:List Trp),([]:List Frm)),a,b,c))=(v,(vf,vn,vd,vs,vl,([]:List UInt8),([]:List Trp),([]:List Frm)),((0:Int),(0:Int),(0:Int),(0:Int),(0:Int),([]:List UInt8),([]:List Trp),([]:List Frm)),a,b,if 120<v then ae else c)by split<;>rfl];simp only
 rw[gx];have h4:=h3.cut (120<v);refine ct (Dl v _ _ h4 fun l hl=>?_) (k':=b6 vf vn vd vs vl) fun vc ⟨a,b,c⟩ st4 h5 e4=>?_
 ·split at hl
  ·cases hl
  ·obtain⟨_,_,hg⟩:=e3 l hl;exact yY hg
 show Sm _ _ (st4.bind fun l=>(cP 3 iK l).bind fun p=>b7 vf vn vd vs vl vc p.1 p.2);rw[jZ 3 iK (b7 vf vn vd vs vl vc)];refine ct (ic _ st4 h5) (k':=fun n l=>if 3<n then aj else(bR iK n.toNat l).bind fun q=>b7 vf vn vd vs vl vc q.1 q.2) fun v2 ⟨a,b,c⟩ st5 h6 e5=>?_
 simp only[mL]
 rw[show(if(3:Int)<v2 then(v2,(vf,vn,vd,vs,vl,vc,([]:List Trp),([]:List Frm)),((0:Int),(0:Int),(0:Int),(0:Int),(0:Int),([]:List UInt8),([]:List Trp),([]:List Frm)),a,b,ae)else(v2,(vf,vn,vd,vs,vl,vc,([]:List Trp),([]:List Frm)),((0:Int),(0:Int),(0:Int),(0:Int),(0:Int),([]:List UInt8),([]:List Trp),([]:List Frm)),a,b,c))=(v2,(vf,vn,vd,vs,vl,vc,([]:List Trp),([]:List Frm)),((0:Int),(0:Int),(0:Int),(0:Int),(0:Int),([]:List UInt8),([]:List Trp),([]:List Frm)),a,b,if 3<v2 then ae else c)by split<;>rfl];simp only
 rw[gx];have h7:=h6.cut (3<v2);refine Sm.loop (fun out i s=>(v2,(i:Int),(vf,vn,vd,vs,vl,vc,out,([]:List Frm)),((0:Int),(0:Int),(0:Int),(0:Int),(0:Int),([]:List UInt8),([]:List Trp),([]:List Frm)),s)) (fun out s=>((vf,vn,vd,vs,vl,vc,out,([]:List Frm)),((0:Int),(0:Int),(0:Int),(0:Int),(0:Int),([]:List UInt8),([]:List Trp),([]:List Frm)),s)) v2.toNat iK h7 (k':=b7 vf vn vd vs vl vc) rfl ?_ ?_ ?_
 ·intro out i ⟨a,b,c⟩ hs;have:=hs.2.2.2.2.1 rfl;simp only at this;subst this;by_cases hi:(i:Int)<v2<;>simp only[hi,ay,bc,aN,aM,Bool.not_true,aV]
 ·intro l hl;have hv:=j4 e5 hl;refine⟨fun out ⟨a,b,c⟩ l hs=>?_,fun out i ⟨a,b,c⟩ l hi ho hs=>?_⟩
  ·have hi:¬((v2.toNat:Int)<v2):=by omega
   simp only[hi,bc,aM,aV]
  ·have hi':(i:Int)<v2:=by omega
   have hc:=(hs.2.2.2.2.2 l rfl).1;simp only at hc;subst hc;simp only[hi',ay,aN,Bool.not_false,aJ]
   have ho1:out.length+1<=9223372036854775807:=by omega
   have ho2:(out.length+1)*32<=140737488355328:=by omega
   have hwi:IntKind.wrap .i64 ((i:Int)+1)=((i+1:Nat):Int):=by rw[wI (by omega) (by omega)];omega
   show St (dw s0) _ (fun w s'=>Sum.inl ((v2,((i+1:Nat):Int),(vf,vn,vd,vs,vl,vc,out++[w],([]:List Frm)),((0:Int),(0:Int),(0:Int),(0:Int),(0:Int),([]:List UInt8),([]:List Trp),([]:List Frm)),s'))) ((U l).bind iK);refine gf (ie _ _ hs) (k':=fun p l=>(g2 l).bind fun q=>(g2 q.2).bind fun r=>(g2 r.2).bind fun s=>U ((p,q.1,r.1,s.1),s.2)) fun w0 ⟨a5,b5,f_⟩ t0 g0=>?_
   refine gf (ie _ _ g0) (k':=fun q l=>(g2 l).bind fun r=>(g2 r.2).bind fun s=>U ((w0,q,r.1,s.1),s.2)) fun w1 ⟨a6,b6,gc6⟩ t1 g1=>?_
   refine gf (ie _ _ g1) (k':=fun r l=>(g2 l).bind fun s=>U ((w0,w1,r,s.1),s.2)) fun w2 ⟨a7,b7,ik⟩ t2 g2=>?_
   refine gf (ie _ _ g2) (k':=fun s l=>U ((w0,w1,w2,s),l)) fun w3 ⟨a8,b8,j5⟩ t3 g3=>?_
   simp only[ho1,ho2,ay,ck,aD,hwi]
   exact St.ret (mk:=fun w s'=>Sum.inl ((v2,((i+1:Nat):Int),(vf,vn,vd,vs,vl,vc,out++[w],([]:List Frm)),((0:Int),(0:Int),(0:Int),(0:Int),(0:Int),([]:List UInt8),([]:List Trp),([]:List Frm)),s'))) g3 _
 ·intro out ⟨a,b,c⟩ st' hs;show Sm _ _ (st'.bind fun l=>(cP 8 iL l).bind fun p=>U ((vf,vn,vd,vs,vl,vc,out,p.1),p.2));rw[jZ 8 iL fun p l=>U ((vf,vn,vd,vs,vl,vc,out,p),l)];refine ct (ic _ _ hs) (k':=fun n l=>if 8<n then aj else(bR iL n.toNat l).bind fun q=>U ((vf,vn,vd,vs,vl,vc,out,q.1),q.2)) fun v3 ⟨a,b,c⟩ st6 h8 e6=>?_
  simp only[mL]
  rw[show(if(8:Int)<v3 then(v3,(vf,vn,vd,vs,vl,vc,out,([]:List Frm)),((0:Int),(0:Int),(0:Int),(0:Int),(0:Int),([]:List UInt8),([]:List Trp),([]:List Frm)),a,b,ae)else(v3,(vf,vn,vd,vs,vl,vc,out,([]:List Frm)),((0:Int),(0:Int),(0:Int),(0:Int),(0:Int),([]:List UInt8),([]:List Trp),([]:List Frm)),a,b,c))=(v3,(vf,vn,vd,vs,vl,vc,out,([]:List Frm)),((0:Int),(0:Int),(0:Int),(0:Int),(0:Int),([]:List UInt8),([]:List Trp),([]:List Frm)),a,b,if 8<v3 then ae else c)by split<;>rfl];simp only
  rw[gx];have h9:=h8.cut (8<v3);generalize out=tr;refine Sm.loop (fun out i s=>(v3,(i:Int),(vf,vn,vd,vs,vl,vc,tr,out),((0:Int),(0:Int),(0:Int),(0:Int),(0:Int),([]:List UInt8),([]:List Trp),([]:List Frm)),s)) (fun out s=>((vf,vn,vd,vs,vl,vc,tr,out),((0:Int),(0:Int),(0:Int),(0:Int),(0:Int),([]:List UInt8),([]:List Trp),([]:List Frm)),s)) v3.toNat iL h9 (k':=fun p l=>U ((vf,vn,vd,vs,vl,vc,tr,p),l)) rfl ?_ ?_ ?_
  ·intro out i ⟨a,b,c⟩ hs;have:=hs.2.2.2.2.1 rfl;simp only at this;subst this;by_cases hi:(i:Int)<v3<;>simp only[hi,ay,bc,aN,aM,Bool.not_true,aV]
  ·intro l hl;have hv:=j4 e6 hl;refine⟨fun out ⟨a,b,c⟩ l hs=>?_,fun out i ⟨a,b,c⟩ l hi ho hs=>?_⟩
   ·have hi:¬((v3.toNat:Int)<v3):=by omega
    simp only[hi,bc,aM,aV]
   ·have hi':(i:Int)<v3:=by omega
    have hc:=(hs.2.2.2.2.2 l rfl).1;simp only at hc;subst hc;simp only[hi',ay,aN,Bool.not_false,aJ]
    have ho1:out.length+1<=9223372036854775807:=by omega
    have ho2:(out.length+1)*56<=140737488355328:=by omega
    have hwi:IntKind.wrap .i64 ((i:Int)+1)=((i+1:Nat):Int):=by rw[wI (by omega) (by omega)];omega
    show St (dw s0) _ (fun w s'=>Sum.inl ((v3,((i+1:Nat):Int),(vf,vn,vd,vs,vl,vc,tr,out++[w]),((0:Int),(0:Int),(0:Int),(0:Int),(0:Int),([]:List UInt8),([]:List Trp),([]:List Frm)),s'))) ((U l).bind iL);refine gf (ie _ _ hs) (k':=fun p l=>(cP 8 eh l).bind fun q=>(cP 8 eh q.2).bind fun r=>U ((p,q.1,r.1),r.2)) fun w0 ⟨a5,b5,f_⟩ t0 g0=>?_
    refine gf (Kh _ _ g0) (k':=fun q l=>(cP 8 eh l).bind fun r=>U ((w0,q,r.1),r.2)) fun w1 ⟨a6,b6,gc6⟩ t1 g1=>?_
    refine gf (Kh _ _ g1) (k':=fun r l=>U ((w0,w1,r),l)) fun w2 ⟨a7,b7,ik⟩ t2 g2=>?_
    simp only[ho1,ho2,ay,ck,aD,hwi]
    exact St.ret (mk:=fun w s'=>Sum.inl ((v3,((i+1:Nat):Int),(vf,vn,vd,vs,vl,vc,tr,out++[w]),((0:Int),(0:Int),(0:Int),(0:Int),(0:Int),([]:List UInt8),([]:List Trp),([]:List Frm)),s'))) g2 _
  ·intro out ⟨a,b,c⟩ st' hs;exact Sm.ret hs _
def zbI {s0:List UInt8}(s:List UInt8×Int×Bool)(st:Option (List UInt8))(h:dw s0 s st):Sm (dw s0) (xw s) (st.bind f9):=by
 obtain⟨o0,o1,o2⟩:=s;simp only[xw]
 refine ct (ic _ st h) (k':=m1) fun vf ⟨a,b,c⟩ st1 h1 e1=>?_
 refine ct (ie _ st1 h1) (k':=m2 vf) fun vn ⟨a,b,c⟩ st2 h2 e2=>?_
 refine ct (ie _ st2 h2) (k':=m3 vf vn) fun vd ⟨a,b,c⟩ st3 h3 e3=>?_
 have hw:IntKind.wrap .i64 (Int.tdiv (Int.tmod vf 16) 8)=Int.tdiv (Int.tmod vf 16) 8:=by
  have h1:=Int.tmod_lt_of_pos vf (show(0:Int)<16 by omega)
  have h2 : -16<Int.tmod vf 16:=by
   rcases Int.lt_or_le vf 0 with hv|hv
   ·have e:Int.tmod vf 16 = - Int.tmod (-vf) 16:=by rw[Int.neg_tmod];omega
    have:=Int.tmod_lt_of_pos (-vf) (show(0:Int)<16 by omega);omega
   ·have:=Int.tmod_nonneg 16 hv;omega
  generalize Int.tmod vf 16=q at h1 h2
  have h3 : -3<Int.tdiv q 8:=by
   rcases Int.lt_or_le q 0 with hq|hq
   ·have e:Int.tdiv q 8 = - Int.tdiv (-q) 8:=by rw[Int.neg_tdiv];omega
    have:Int.tdiv (-q) 8=(-q) / 8:=Int.tdiv_eq_ediv_of_nonneg (by omega);omega
   ·have:Int.tdiv q 8=q / 8:=Int.tdiv_eq_ediv_of_nonneg hq;omega
  have h4:Int.tdiv q 8<3:=by
   rcases Int.lt_or_le q 0 with hq|hq
   ·have e:Int.tdiv q 8 = - Int.tdiv (-q) 8:=by rw[Int.neg_tdiv];omega
    have:Int.tdiv (-q) 8=(-q) / 8:=Int.tdiv_eq_ediv_of_nonneg (by omega);omega
   ·have:Int.tdiv q 8=q / 8:=Int.tdiv_eq_ediv_of_nonneg hq;omega
  exact wI (by omega) (by omega)
 simp only[hw,aG]
 by_cases hab:gR vf
 ·rw[if_pos (show Int.tdiv (Int.tmod vf 16) 8=1 from hab)];have e:m3 vf vn vd=fun l=>U ((vf,vn,vd,0,0,[],[],[]),l):=by funext l;simp only[m3,if_pos hab]
  rw[e];exact Sm.ret h3 _
 ·rw[if_neg (show ¬Int.tdiv (Int.tmod vf 16) 8=1 from hab)];have e:m3 vf vn vd=fun l=>(rf vf vn vd l).bind fun p=>U (p.1,p.2):=by funext l;simp only[m3,if_neg hab];cases rf vf vn vd l<;>rfl
  rw[e];exact ct (zbH vf vn vd _ st3 h3) (k':=fun p l=>U (p,l)) fun m ⟨a,b,c⟩ st4 h4 e4=>Sm.ret h4 _
def zbJ {s0:List UInt8}(s:List UInt8×Int×Bool)(st:Option (List UInt8))(h:dw s0 s st):Sm (dw s0) (tu s) (st.bind fh):=by
 obtain⟨o0,o1,o2⟩:=s;simp only[tu,kB,bW,mL]
 refine ct (Dl 4 _ st h fun _ _=>by omega) (k':=iN) fun vt ⟨a,b,c⟩ st1 h1 e1=>?_
 simp only
 rw[show(if vt=[83,84,79,87]then((([]:List Cst),(0:Int),(0:Int),(0:Int),([]:List Int),([]:List Fld),([]:List Mth)),(([]:List Cst),(0:Int),(0:Int),(0:Int),([]:List Int),([]:List Fld),([]:List Mth)),a,b,c)else((([]:List Cst),(0:Int),(0:Int),(0:Int),([]:List Int),([]:List Fld),([]:List Mth)),(([]:List Cst),(0:Int),(0:Int),(0:Int),([]:List Int),([]:List Fld),([]:List Mth)),a,b,ae))=((([]:List Cst),(0:Int),(0:Int),(0:Int),([]:List Int),([]:List Fld),([]:List Mth)),(([]:List Cst),(0:Int),(0:Int),(0:Int),([]:List Int),([]:List Fld),([]:List Mth)),a,b,if ¬vt=[83,84,79,87]then ae else c)by by_cases hvt:vt=[83,84,79,87]<;>simp[hvt]];simp only
 show Sm _ _ (st1.bind fun l=>if ¬vt=[83,84,79,87]then aj else lg l);rw[gx];refine ct (zbG _ _ (h1.cut _)) (k':=jf) fun vp ⟨a,b,c⟩ st2 h2 e2=>?_
 refine ct (ic _ _ h2) (k':=mM vp) fun vf ⟨a,b,c⟩ st3 h3 e3=>?_
 refine ct (ie _ _ h3) (k':=f_ vp vf) fun vn ⟨a,b,c⟩ st4 h4 e4=>?_
 refine ct (ie _ _ h4) (k':=y_ vp vf vn) fun vs ⟨a,b,c⟩ st5 h5 e5=>?_
 show Sm _ _ (st5.bind fun l=>(cP 3 g2 l).bind fun p=>ik vp vf vn vs p.1 p.2);rw[jZ 3 g2 (ik vp vf vn vs)];refine ct (ic _ _ h5) (k':=fun n l=>if 3<n then aj else(bR g2 n.toNat l).bind fun q=>ik vp vf vn vs q.1 q.2) fun v1 ⟨a,b,c⟩ st6 h6 e6=>?_
 simp only[mL]
 rw[show(if(3:Int)<v1 then(v1,(([]:List Cst),(0:Int),(0:Int),(0:Int),([]:List Int),([]:List Fld),([]:List Mth)),(vp,vf,vn,vs,([]:List Int),([]:List Fld),([]:List Mth)),a,b,ae)else(v1,(([]:List Cst),(0:Int),(0:Int),(0:Int),([]:List Int),([]:List Fld),([]:List Mth)),(vp,vf,vn,vs,([]:List Int),([]:List Fld),([]:List Mth)),a,b,c))=(v1,(([]:List Cst),(0:Int),(0:Int),(0:Int),([]:List Int),([]:List Fld),([]:List Mth)),(vp,vf,vn,vs,([]:List Int),([]:List Fld),([]:List Mth)),a,b,if 3<v1 then ae else c)by split<;>rfl];simp only
 rw[gx];have h7:=h6.cut (3<v1);refine Sm.loop (fun out i s=>(v1,(i:Int),(([]:List Cst),(0:Int),(0:Int),(0:Int),([]:List Int),([]:List Fld),([]:List Mth)),(vp,vf,vn,vs,out,([]:List Fld),([]:List Mth)),s)) (fun out s=>((([]:List Cst),(0:Int),(0:Int),(0:Int),([]:List Int),([]:List Fld),([]:List Mth)),(vp,vf,vn,vs,out,([]:List Fld),([]:List Mth)),s)) v1.toNat g2 h7 (k':=ik vp vf vn vs) rfl ?_ ?_ ?_
 ·intro out i ⟨a,b,c⟩ hs;have:=hs.2.2.2.2.1 rfl;simp only at this;subst this;by_cases hi:(i:Int)<v1<;>simp only[hi,ay,bc,aN,aM,Bool.not_true,aV]
 ·intro l hl;have hv:=j4 e6 hl;refine⟨fun out ⟨a,b,c⟩ l hs=>?_,fun out i ⟨a,b,c⟩ l hi ho hs=>?_⟩
  ·have hi:¬((v1.toNat:Int)<v1):=by omega
   simp only[hi,bc,aM,aV]
  ·have hi':(i:Int)<v1:=by omega
   have hc:=(hs.2.2.2.2.2 l rfl).1;simp only at hc;subst hc;simp only[hi',ay,aN,Bool.not_false,aJ]
   have ho1:out.length+1<=9223372036854775807:=by omega
   have ho2:(out.length+1)*8<=140737488355328:=by omega
   have hwi:IntKind.wrap .i64 ((i:Int)+1)=((i+1:Nat):Int):=by rw[wI (by omega) (by omega)];omega
   show St (dw s0) _ (fun w s'=>Sum.inl ((v1,((i+1:Nat):Int),(([]:List Cst),(0:Int),(0:Int),(0:Int),([]:List Int),([]:List Fld),([]:List Mth)),(vp,vf,vn,vs,out++[w],([]:List Fld),([]:List Mth)),s'))) ((U l).bind g2);refine uK (ie _ _ hs) fun w0 ⟨a5,b5,f_⟩=>?_
   simp only[ho1,ho2,ay,ck,aD,hwi]
 ·intro out ⟨a,b,c⟩ st' hs;generalize out=fa;show Sm _ _ (st'.bind fun l=>(cP 5 iM l).bind fun p=>j5 vp vf vn vs fa p.1 p.2);rw[jZ 5 iM (j5 vp vf vn vs fa)];refine ct (ic _ _ hs) (k':=fun n l=>if 5<n then aj else(bR iM n.toNat l).bind fun q=>j5 vp vf vn vs fa q.1 q.2) fun v2 ⟨a,b,c⟩ st8 h8 e8=>?_
  simp only[mL]
  rw[show(if(5:Int)<v2 then(v2,(([]:List Cst),(0:Int),(0:Int),(0:Int),([]:List Int),([]:List Fld),([]:List Mth)),(vp,vf,vn,vs,fa,([]:List Fld),([]:List Mth)),a,b,ae)else(v2,(([]:List Cst),(0:Int),(0:Int),(0:Int),([]:List Int),([]:List Fld),([]:List Mth)),(vp,vf,vn,vs,fa,([]:List Fld),([]:List Mth)),a,b,c))=(v2,(([]:List Cst),(0:Int),(0:Int),(0:Int),([]:List Int),([]:List Fld),([]:List Mth)),(vp,vf,vn,vs,fa,([]:List Fld),([]:List Mth)),a,b,if 5<v2 then ae else c)by split<;>rfl];simp only
  rw[gx];have h9:=h8.cut (5<v2);refine Sm.loop (fun out i s=>(v2,(i:Int),(([]:List Cst),(0:Int),(0:Int),(0:Int),([]:List Int),([]:List Fld),([]:List Mth)),(vp,vf,vn,vs,fa,out,([]:List Mth)),s)) (fun out s=>((([]:List Cst),(0:Int),(0:Int),(0:Int),([]:List Int),([]:List Fld),([]:List Mth)),(vp,vf,vn,vs,fa,out,([]:List Mth)),s)) v2.toNat iM h9 (k':=j5 vp vf vn vs fa) rfl ?_ ?_ ?_
  ·intro out i ⟨a,b,c⟩ hs;have:=hs.2.2.2.2.1 rfl;simp only at this;subst this;by_cases hi:(i:Int)<v2<;>simp only[hi,ay,bc,aN,aM,Bool.not_true,aV]
  ·intro l hl;have hv:=j4 e8 hl;refine⟨fun out ⟨a,b,c⟩ l hs=>?_,fun out i ⟨a,b,c⟩ l hi ho hs=>?_⟩
   ·have hi:¬((v2.toNat:Int)<v2):=by omega
    simp only[hi,bc,aM,aV]
   ·have hi':(i:Int)<v2:=by omega
    have hc:=(hs.2.2.2.2.2 l rfl).1;simp only at hc;subst hc;simp only[hi',ay,aN,Bool.not_false,aJ]
    have ho1:out.length+1<=9223372036854775807:=by omega
    have ho2:(out.length+1)*24<=140737488355328:=by omega
    have hwi:IntKind.wrap .i64 ((i:Int)+1)=((i+1:Nat):Int):=by rw[wI (by omega) (by omega)];omega
    show St (dw s0) _ (fun w s'=>Sum.inl ((v2,((i+1:Nat):Int),(([]:List Cst),(0:Int),(0:Int),(0:Int),([]:List Int),([]:List Fld),([]:List Mth)),(vp,vf,vn,vs,fa,out++[w],([]:List Mth)),s'))) ((U l).bind iM);refine gf (ic _ _ hs) (k':=fun p l=>(g2 l).bind fun q=>(g2 q.2).bind fun r=>U ((p,q.1,r.1),r.2)) fun w0 ⟨a5,b5,f_⟩ t0 g0=>?_
    refine gf (ie _ _ g0) (k':=fun q l=>(g2 l).bind fun r=>U ((w0,q,r.1),r.2)) fun w1 ⟨a6,b6,gc6⟩ t1 g1=>?_
    refine gf (ie _ _ g1) (k':=fun r l=>U ((w0,w1,r),l)) fun w2 ⟨a7,b7,ik⟩ t2 g2=>?_
    simp only[ho1,ho2,ay,ck,aD,hwi]
    exact St.ret (mk:=fun w s'=>Sum.inl ((v2,((i+1:Nat):Int),(([]:List Cst),(0:Int),(0:Int),(0:Int),([]:List Int),([]:List Fld),([]:List Mth)),(vp,vf,vn,vs,fa,out++[w],([]:List Mth)),s'))) g2 _
  ·intro out ⟨a,b,c⟩ st' hs;generalize out=fi;show Sm _ _ (st'.bind fun l=>(cP 6 f9 l).bind fun p=>U ((vp,vf,vn,vs,fa,fi,p.1),p.2));rw[jZ 6 f9 fun p l=>U ((vp,vf,vn,vs,fa,fi,p),l)];refine ct (ic _ _ hs) (k':=fun n l=>if 6<n then aj else(bR f9 n.toNat l).bind fun q=>U ((vp,vf,vn,vs,fa,fi,q.1),q.2)) fun v3 ⟨a,b,c⟩ st10 h10 e10=>?_
   simp only[mL]
   rw[show(if(6:Int)<v3 then(v3,(([]:List Cst),(0:Int),(0:Int),(0:Int),([]:List Int),([]:List Fld),([]:List Mth)),(vp,vf,vn,vs,fa,fi,([]:List Mth)),a,b,ae)else(v3,(([]:List Cst),(0:Int),(0:Int),(0:Int),([]:List Int),([]:List Fld),([]:List Mth)),(vp,vf,vn,vs,fa,fi,([]:List Mth)),a,b,c))=(v3,(([]:List Cst),(0:Int),(0:Int),(0:Int),([]:List Int),([]:List Fld),([]:List Mth)),(vp,vf,vn,vs,fa,fi,([]:List Mth)),a,b,if 6<v3 then ae else c)by split<;>rfl];simp only
   rw[gx];have h11:=h10.cut (6<v3);refine Sm.loop (fun out i s=>(v3,(i:Int),(([]:List Cst),(0:Int),(0:Int),(0:Int),([]:List Int),([]:List Fld),([]:List Mth)),(vp,vf,vn,vs,fa,fi,out),s)) (fun out s=>((([]:List Cst),(0:Int),(0:Int),(0:Int),([]:List Int),([]:List Fld),([]:List Mth)),(vp,vf,vn,vs,fa,fi,out),s)) v3.toNat f9 h11 (k':=fun p l=>U ((vp,vf,vn,vs,fa,fi,p),l)) rfl ?_ ?_ ?_
   ·intro out i ⟨a,b,c⟩ hs;have:=hs.2.2.2.2.1 rfl;simp only at this;subst this;by_cases hi:(i:Int)<v3<;>simp only[hi,ay,bc,aN,aM,Bool.not_true,aV]
   ·intro l hl;have hv:=j4 e10 hl;refine⟨fun out ⟨a,b,c⟩ l hs=>?_,fun out i ⟨a,b,c⟩ l hi ho hs=>?_⟩
    ·have hi:¬((v3.toNat:Int)<v3):=by omega
     simp only[hi,bc,aM,aV]
    ·have hi':(i:Int)<v3:=by omega
     have hc:=(hs.2.2.2.2.2 l rfl).1;simp only at hc;subst hc;simp only[hi',ay,aN,Bool.not_false,aJ]
     have ho1:out.length+1<=9223372036854775807:=by omega
     have ho2:(out.length+1)*104<=140737488355328:=by omega
     have hwi:IntKind.wrap .i64 ((i:Int)+1)=((i+1:Nat):Int):=by rw[wI (by omega) (by omega)];omega
     show St (dw s0) _ (fun w s'=>Sum.inl ((v3,((i+1:Nat):Int),(([]:List Cst),(0:Int),(0:Int),(0:Int),([]:List Int),([]:List Fld),([]:List Mth)),(vp,vf,vn,vs,fa,fi,out++[w]),s'))) ((U l).bind f9);refine uK (zbI _ _ hs) fun w0 ⟨a5,b5,f_⟩=>?_
     simp only[ho1,ho2,ay,ck,aD,hwi]
   ·intro out ⟨a,b,c⟩ st' hs;exact Sm.ret hs _
end Go.Proofs.YtmjlecabpbiigaaGreat
end
section
namespace Go.TM
open Go.AM
section
variable {σ α β R Y Z:Type}
def nZ {γ:Type}(most v:Int)(st:Option (List UInt8))(M:Int->List UInt8->Option γ):((if most<v then aj else st).bind fun l=>M v l)=(if most<v then aj else st).bind fun l=>M (if most<v then 0 else v) l:=by
 by_cases h:most<v<;>simp[h]
def n4 (most v:Int){st:Option (List UInt8)}(l:List UInt8)(h:(if most<v then aj else st)=U l):(if most<v then 0 else v)=v:=by
 by_cases h':most<v
 ·rw[if_pos h']at h;cases h
 ·rw[if_neg h']
variable {Re:σ->Option (List UInt8)->Prop}
def oo {Φ:Option Z->Option (β×List UInt8)->Prop}{F:Option (α×σ)}{g:List UInt8->Option (α×List UInt8)}{st:Option (List UInt8)}{k:α×σ->Option Z}{k':α->List UInt8->Option (β×List UInt8)}
  (hF:Sm Re F (st.bind g)) (hk:∀v s' st',Re s' st'->(∀l',st'=U l'->∃l,st=U l/\g l=U (v,l'))->Φ (k (v,s')) (st'.bind (k' v))) :
  Φ (ah F k) (st.bind fun l=>(g l).bind fun p=>k' p.1 p.2):=by
 have e:(st.bind fun l=>(g l).bind fun p=>k' p.1 p.2)=(st.bind g).bind fun p=>k' p.1 p.2:=by cases st<;>rfl
 rw[e];obtain⟨v,s,hr,h1,h2⟩:=hF;rw[hr,ax]
 have:=hk v s _ h1 fun l' hl=>by
  cases st with
  |none=>cases hl
  | some l=>
    refine⟨l,rfl,?_⟩;cases hg:g l with
    |none=>simp[hg]at hl
    | some p=>
      simp only[bh,hg,Option.map_some,aF]at hl;subst hl;rw[h2 p.1 p.2 (by simp[hg])]
 cases hm:st.bind g with
 |none=>rw[hm]at this;exact this
 | some p=>
   rw[hm]at this h2;have e:=h2 p.1 p.2 rfl;subst e;exact this
def Gn.loop {Φ:Option Z->Option (α×List UInt8)->Prop}{X Y:Type}{f:X->Option (X⊕(Y⊕Z))}(mk:List β->Nat->σ->X)(fin:List β->σ->Y)(n:Nat)(g:List UInt8->Option (β×List UInt8)){s:σ}{st:Option (List UInt8)}(h:Re s st)
  {k:Y->Option Z} {k':List β->List UInt8->Option (α×List UInt8)} {x0:X} (hx:x0=mk [] 0 s)
  (hbad:∀out i s,Re s aj->f (mk out i s)=U (.inr (.inl (fin out s))))
  (hg:∀l,st=U l->(∀out s l,Re s (U l)->f (mk out n s)=U (.inr (.inl (fin out s)))) /\
   ∀out i s l,i<n->out.length=i->Re s (U l)->∃v s',f (mk out i s)=U (.inl (mk (out++[v]) (i+1) s'))/\Re s' ((g l).map (·.2))/\∀v' l',g l=U (v',l')->v=v')
  (hk:∀out s' st',Re s' st'->Φ (k (fin out s')) (st'.bind (k' out))) :
  Φ (bindE (aE f x0) k) (st.bind fun l=>(bR g n l).bind fun p=>k' p.1 p.2):=by
 obtain⟨o,s',q1,q2,q3⟩:=Kf mk (fun out s=>(.inl (fin out s):Y⊕Z)) n g s st h hbad hg;rw[hx,q1,aJ];have:=hk o s' _ q2;have e:(st.bind fun l=>(bR g n l).bind fun p=>k' p.1 p.2)=(st.bind (bR g n)).bind fun p=>k' p.1 p.2:=by cases st<;>rfl
 rw[e];cases hm:st.bind (bR g n)with
 |none=>rw[hm]at this;exact this
 | some p=>
   rw[hm]at this;rw[q3 p.1 p.2 hm]at this ⊢;exact this
end
end Go.TM
namespace Go.Proofs.YtmjlecabpbiigaaGreat
open Go Go.AM Go.TM
def dV.cut {a:List UInt8}{t:Bool}{st:Option (List UInt8)}(c:Prop)[Decidable c](h:dV (a,t) st):dV (a,if c then ae else t) (if c then aj else st):=by
 by_cases hc:c
 ·simp only[if_pos hc];exact h.bad
 ·simp only[if_neg hc];exact h
def mN (n most:Int)(a:List UInt8)(c:Bool):jD (n,most,a,c)=U ((if most<n then 0 else n),a,if most<n then ae else c):=by
 simp only[jD,aG]
 by_cases h:most<n<;>simp[h]
def Ki (s:List UInt8×Bool)(st:Option (List UInt8))(h:dV s st):Sm dV (tN s) (st.bind (cP 8 eh)):=by
 obtain⟨o0,o1⟩:=s;simp only[tN]
 rw[<-Kg (cP 8 eh),jZ 8 eh fun p l=>U (p,l)];refine ct (ig _ st h) (k':=fun n l=>if 8<n then aj else(bR eh n.toNat l).bind fun q=>U (q.1,q.2)) fun v ⟨a,c⟩ st1 h1 e1=>?_
 rw[gx];rw[mN v 8 a c,ax];simp only
 rw[nZ 8 v st1 fun v l=>(bR eh v.toNat l).bind fun q=>U (q.1,q.2)];have h2:=h1.cut (8<v);have zv':∀l,(if 8<v then aj else st1)=U l->(if 8<v then 0 else v)=v:=fun l=>n4 8 v l
 generalize (if 8<v then 0 else v)=v' at zv' ⊢;refine Sm.loop (fun out i s=>(out,v'-(i:Int),s)) (fun out s=>(out,s)) v'.toNat eh h2 (k':=fun p l=>U (p,l)) (by simp) ?_ ?_ ?_
 ·intro out i ⟨a,c⟩ hs;have:=hs.2.1 rfl;simp only at this;subst this;by_cases hi:(0:Int)<v'-(i:Int)<;>simp only[hi,ay,bc,aN,aM,Bool.not_true,aV]
 ·intro l hl;have hv:=j4 e1 hl;have hz:=zv' l hl;refine⟨fun out ⟨a,c⟩ l hs=>?_,fun out i ⟨a,c⟩ l hi ho hs=>?_⟩
  ·have hi:¬((0:Int)<v'-(v'.toNat:Int)):=by omega
   simp only[hi,bc,aM,aV]
  ·have hi':(0:Int)<v'-(i:Int):=by omega
   have hw:IntKind.wrap .i64 (v'-(i:Int)-1)=v'-((i+1:Nat):Int):=by rw[wI (by omega) (by omega)];omega
   have hc:=(hs.2.2 l rfl).1;simp only at hc;subst hc;simp only[hi',ay,aN,Bool.not_false,aJ]
   have hk:Sm dV (ah (fB (a,ag)) fun x=>match x with
     | (y4,y5,y7)=>ah (jD (y4,3,y5,y7)) fun x=>match x with
       |(z4,z5,z7)=>ai (aa (z4=3)) (ah (ff (z5,z7)) fun x=>match x with|(y8,y9,y11)=>U ((z4,y8),y9,y11)) (U ((z4,0),z5,z7))) ((U l).bind eh):=by
    refine ct (ig _ _ hs) (k':=fun p l=>if p=3 then(g2 l).bind fun q=>U ((3,q.1),q.2)else if 3<p then aj else U ((p,0),l)) fun w ⟨a2,lg⟩ st2 h2 e2=>?_
    simp only[mN,aG]
    by_cases hw:w=3
    ·subst hw;simp only[↓reduceIte,ax,bH]
     exact ct (ij _ st2 h2) (k':=fun q l=>U ((3,q),l)) fun n ⟨a3,jf⟩ st3 h3 e3=>Sm.ret h3 _
    ·simp only[hw,↓reduceIte]
     rw[gx];by_cases h3:3<w
     ·simp only[h3,↓reduceIte,ax,show ¬((0:Int)=3)by omega]
      exact⟨_,_,rfl,h2.bad,fun _ _ h=>by cases h⟩
     ·simp only[h3,hw,↓reduceIte,ax]
      exact Sm.ret h2 _
   refine hk.one (mk:=fun w s=>(out++[w],v'-((i+1:Nat):Int),s)) fun w s' hr=>?_
   have ho1:out.length+1<=9223372036854775807:=by omega
   have ho2:(out.length+1)*16<=140737488355328:=by omega
   rcases h221:fB (a,ag)with _|⟨y4,y5,y7⟩
   ·rw[h221]at hr;cases hr
   ·rw[h221]at hr;simp only[ax]at hr ⊢;rcases h58:jD (y4,3,y5,y7)with _|⟨z4,z5,z7⟩
    ·rw[h58]at hr;cases hr
    ·rw[h58]at hr;simp only[ax,aG,fC]at hr ⊢;by_cases hy:z4=3
     ·subst hy;simp only[↓reduceIte,kB]at hr ⊢;rcases h222:ff (z5,z7)with _|⟨y8,y9,y11⟩
      ·rw[h222]at hr;cases hr
      ·rw[h222]at hr;simp only[ax,aF,bm]at hr ⊢;obtain⟨rfl,rfl⟩:=hr;simp only[ho1,ho2,ay,ck,aD,aJ,hw]
     ·simp only[hy,↓reduceIte]at hr ⊢;simp only[aF,bm]at hr ⊢;obtain⟨rfl,rfl⟩:=hr;simp only[ho1,ho2,ay,ck,aD,aJ,hw]
 ·intro out ⟨a,c⟩ st' hs;exact Sm.ret hs _
def Kj (n:Fin 256):(!aa (dK .i64 (n.val:Int) 8=0))=aa (gR (n.val:Int)):=by
 revert n;decide +kernel
def i62 (s:List UInt8×Bool)(st:Option (List UInt8))(h:dV s st):Sm dV (ye s) (st.bind f9):=by
 obtain⟨o0,o1⟩:=s;simp only[ye]
 refine ct (ig _ st h) (k':=m1) fun vf ⟨a,c⟩ st1 h1 e1=>?_
 refine ct (ij _ st1 h1) (k':=m2 vf) fun vn ⟨a,c⟩ st2 h2 e2=>?_
 refine ct (ij _ st2 h2) (k':=m3 vf vn) fun vd ⟨a,c⟩ st3 h3 e3=>?_
 have hab:∀l,st3=U l->(!aa (dK .i64 vf 8=0))=aa (gR vf):=by
  intro l hl;obtain⟨l2,q2,_⟩:=e3 l hl;obtain⟨l1,q1,_⟩:=e2 l2 q2;obtain⟨_,_,hg⟩:=e1 l1 q1;have:=f8 hg;have:=Kj ⟨vf.toNat,by omega⟩;simpa[show((vf.toNat:Nat):Int)=vf by omega]using this
 simp only[k9,ax]
 cases hy:(!aa (dK .i64 vf 8=0))with
 | true=>
   rw[hy]at hab;simp only[aN]
   have e:st3.bind (m3 vf vn vd)=st3.bind fun l=>U ((vf,vn,vd,0,0,[],[],[]),l):=by
    cases st3 with
    |none=>rfl
    |some l=>have:=hab l rfl;have:gR vf:=by simpa using this.symm
             simp only[bh,m3,if_pos this]
   rw[e];exact Sm.ret h3 _
 |false=>
 rw[hy]at hab;simp only[aM]
 have e:st3.bind (m3 vf vn vd)=st3.bind (rf vf vn vd):=by
  cases st3 with
  |none=>rfl
  |some l=>have:=hab l rfl;have:¬gR vf:=by simpa using this.symm
           simp only[bh,m3,if_neg this]
 rw[e];clear hab e;refine ct (ig _ st3 h3) (k':=b3 vf vn vd) fun vs ⟨a,c⟩ st1 h1 e1=>?_
 refine ct (ig _ st1 h1) (k':=b4 vf vn vd vs) fun vl ⟨a,c⟩ st2 h2 e2=>?_
 refine ct (ij _ st2 h2) (k':=b5 vf vn vd vs vl) fun v ⟨a,c⟩ st3 h3 e3=>?_
 show Sm _ _ (st3.bind fun l=>if 120<v then aj else(gT v l).bind fun p=>b6 vf vn vd vs vl p.1 p.2);rw[gx];rw[mN v 120 a c,ax];simp only
 rw[nZ 120 v st3 fun v l=>(gT v l).bind fun p=>b6 vf vn vd vs vl p.1 p.2];have h4:=h3.cut (120<v);have zv':∀l,(if 120<v then aj else st3)=U l->(if 120<v then 0 else v)=v:=fun l=>n4 120 v l
 generalize (if 120<v then 0 else v)=v' at zv' ⊢;refine ct (yZ v' _ _ h4 fun l hl=>?_) (k':=b6 vf vn vd vs vl) fun vc ⟨a,c⟩ st4 h5 e4=>?_
 ·rw[zv' l hl];split at hl
  ·cases hl
  ·obtain⟨_,_,hg⟩:=e3 l hl;exact(yY hg).1
 show Sm _ _ (st4.bind fun l=>(cP 3 iK l).bind fun p=>b7 vf vn vd vs vl vc p.1 p.2);rw[jZ 3 iK (b7 vf vn vd vs vl vc)];refine ct (ig _ st4 h5) (k':=fun n l=>if 3<n then aj else(bR iK n.toNat l).bind fun q=>b7 vf vn vd vs vl vc q.1 q.2) fun v2 ⟨a,c⟩ st5 h6 e5=>?_
 rw[gx];rw[mN v2 3 a c,ax];simp only
 rw[nZ 3 v2 st5 fun v l=>(bR iK v.toNat l).bind fun q=>b7 vf vn vd vs vl vc q.1 q.2];have h7:=h6.cut (3<v2);have zv2':∀l,(if 3<v2 then aj else st5)=U l->(if 3<v2 then 0 else v2)=v2:=fun l=>n4 3 v2 l
 generalize (if 3<v2 then 0 else v2)=v2' at zv2' ⊢;refine Sm.loop (fun out i s=>(v2'-(i:Int),((0:Int),(0:Int),(0:Int),(0:Int),(0:Int),([]:List UInt8),([]:List Trp),([]:List Frm)),(vf,vn,vd,vs,vl,vc,out,([]:List Frm)),s)) (fun out s=>(((0:Int),(0:Int),(0:Int),(0:Int),(0:Int),([]:List UInt8),([]:List Trp),([]:List Frm)),(vf,vn,vd,vs,vl,vc,out,([]:List Frm)),s)) v2'.toNat iK h7 (k':=b7 vf vn vd vs vl vc) (by simp) ?_ ?_ ?_
 ·intro out i ⟨a,c⟩ hs;have:=hs.2.1 rfl;simp only at this;subst this;by_cases hi:(0:Int)<v2'-(i:Int)<;>simp only[hi,ay,bc,aN,aM,Bool.not_true,aV]
 ·intro l hl;have hv:=j4 e5 hl;have hz:=zv2' l hl;refine⟨fun out ⟨a,c⟩ l hs=>?_,fun out i ⟨a,c⟩ l hi ho hs=>?_⟩
  ·have hi:¬((0:Int)<v2'-(v2'.toNat:Int)):=by omega
   simp only[hi,bc,aM,aV]
  ·have hi':(0:Int)<v2'-(i:Int):=by omega
   have hw:IntKind.wrap .i64 (v2'-(i:Int)-1)=v2'-((i+1:Nat):Int):=by rw[wI (by omega) (by omega)];omega
   have hc:=(hs.2.2 l rfl).1;simp only at hc;subst hc;simp only[hi',ay,aN,Bool.not_false,aJ]
   have ho1:out.length+1<=9223372036854775807:=by omega
   have ho2:(out.length+1)*32<=140737488355328:=by omega
   show St dV _ (fun w s'=>Sum.inl ((v2'-((i+1:Nat):Int),((0:Int),(0:Int),(0:Int),(0:Int),(0:Int),([]:List UInt8),([]:List Trp),([]:List Frm)),(vf,vn,vd,vs,vl,vc,out++[w],([]:List Frm)),s'))) ((U l).bind iK);refine gf (ij _ _ hs) (k':=fun p l=>(g2 l).bind fun q=>(g2 q.2).bind fun r=>(g2 r.2).bind fun s=>U ((p,q.1,r.1,s.1),s.2)) fun w0 ⟨a5,f_⟩ t0 g0=>?_
   refine gf (ij _ _ g0) (k':=fun q l=>(g2 l).bind fun r=>(g2 r.2).bind fun s=>U ((w0,q,r.1,s.1),s.2)) fun w1 ⟨a6,gc6⟩ t1 g1=>?_
   refine gf (ij _ _ g1) (k':=fun r l=>(g2 l).bind fun s=>U ((w0,w1,r,s.1),s.2)) fun w2 ⟨a7,ik⟩ t2 g2=>?_
   refine gf (ij _ _ g2) (k':=fun s l=>U ((w0,w1,w2,s),l)) fun w3 ⟨a8,j5⟩ t3 g3=>?_
   simp only[ho1,ho2,ay,ck,aD,hw]
   exact St.ret (mk:=fun w s'=>Sum.inl ((v2'-((i+1:Nat):Int),((0:Int),(0:Int),(0:Int),(0:Int),(0:Int),([]:List UInt8),([]:List Trp),([]:List Frm)),(vf,vn,vd,vs,vl,vc,out++[w],([]:List Frm)),s'))) g3 _
 ·intro out ⟨a,c⟩ st' hs;generalize out=tr;show Sm _ _ (st'.bind fun l=>(cP 8 iL l).bind fun p=>U ((vf,vn,vd,vs,vl,vc,tr,p.1),p.2));rw[jZ 8 iL fun p l=>U ((vf,vn,vd,vs,vl,vc,tr,p),l)];refine ct (ig _ _ hs) (k':=fun n l=>if 8<n then aj else(bR iL n.toNat l).bind fun q=>U ((vf,vn,vd,vs,vl,vc,tr,q.1),q.2)) fun v3 ⟨a,c⟩ st6 h8 e6=>?_
  rw[gx];rw[mN v3 8 a c,ax];simp only
  rw[nZ 8 v3 st6 fun v l=>(bR iL v.toNat l).bind fun q=>U ((vf,vn,vd,vs,vl,vc,tr,q.1),q.2)];have h9:=h8.cut (8<v3);have zv3':∀l,(if 8<v3 then aj else st6)=U l->(if 8<v3 then 0 else v3)=v3:=fun l=>n4 8 v3 l
  generalize (if 8<v3 then 0 else v3)=v3' at zv3' ⊢;refine Sm.loop (fun out i s=>(v3'-(i:Int),((0:Int),(0:Int),(0:Int),(0:Int),(0:Int),([]:List UInt8),([]:List Trp),([]:List Frm)),(vf,vn,vd,vs,vl,vc,tr,out),s)) (fun out s=>(((0:Int),(0:Int),(0:Int),(0:Int),(0:Int),([]:List UInt8),([]:List Trp),([]:List Frm)),(vf,vn,vd,vs,vl,vc,tr,out),s)) v3'.toNat iL h9 (k':=fun p l=>U ((vf,vn,vd,vs,vl,vc,tr,p),l)) (by simp) ?_ ?_ ?_
  ·intro out i ⟨a,c⟩ hs;have:=hs.2.1 rfl;simp only at this;subst this;by_cases hi:(0:Int)<v3'-(i:Int)<;>simp only[hi,ay,bc,aN,aM,Bool.not_true,aV]
  ·intro l hl;have hv:=j4 e6 hl;have hz:=zv3' l hl;refine⟨fun out ⟨a,c⟩ l hs=>?_,fun out i ⟨a,c⟩ l hi ho hs=>?_⟩
   ·have hi:¬((0:Int)<v3'-(v3'.toNat:Int)):=by omega
    simp only[hi,bc,aM,aV]
   ·have hi':(0:Int)<v3'-(i:Int):=by omega
    have hw:IntKind.wrap .i64 (v3'-(i:Int)-1)=v3'-((i+1:Nat):Int):=by rw[wI (by omega) (by omega)];omega
    have hc:=(hs.2.2 l rfl).1;simp only at hc;subst hc;simp only[hi',ay,aN,Bool.not_false,aJ]
    have ho1:out.length+1<=9223372036854775807:=by omega
    have ho2:(out.length+1)*56<=140737488355328:=by omega
    show St dV _ (fun w s'=>Sum.inl ((v3'-((i+1:Nat):Int),((0:Int),(0:Int),(0:Int),(0:Int),(0:Int),([]:List UInt8),([]:List Trp),([]:List Frm)),(vf,vn,vd,vs,vl,vc,tr,out++[w]),s'))) ((U l).bind iL);refine gf (ij _ _ hs) (k':=fun p l=>(cP 8 eh l).bind fun q=>(cP 8 eh q.2).bind fun r=>U ((p,q.1,r.1),r.2)) fun w0 ⟨a5,f_⟩ t0 g0=>?_
    refine gf (Ki _ _ g0) (k':=fun q l=>(cP 8 eh l).bind fun r=>U ((w0,q,r.1),r.2)) fun w1 ⟨a6,gc6⟩ t1 g1=>?_
    refine gf (Ki _ _ g1) (k':=fun r l=>U ((w0,w1,r),l)) fun w2 ⟨a7,ik⟩ t2 g2=>?_
    simp only[ho1,ho2,ay,ck,aD,hw]
    exact St.ret (mk:=fun w s'=>Sum.inl ((v3'-((i+1:Nat):Int),((0:Int),(0:Int),(0:Int),(0:Int),(0:Int),([]:List UInt8),([]:List Trp),([]:List Frm)),(vf,vn,vd,vs,vl,vc,tr,out++[w]),s'))) g2 _
  ·intro out ⟨a,c⟩ st' hs;exact Sm.ret hs _
def ga (q:Option (Bool×Cls))(m:Option (Cls×List UInt8)):Prop:=q=U (match m with
 |some (c,[])=>(ae,c)
 |_=>(ag,(([]:List Cst),(0:Int),(0:Int),(0:Int),([]:List Int),([]:List Fld),([]:List Mth))))
def Kk (l:List UInt8)(hl:l.length<=900):ga (F8 l) (fh l):=by
 have h:dV (l,ag) (U l):=⟨hl,(fun h=>by cases h),fun l' h=>⟨rfl,by simp only[aF]at h;exact h.symm⟩⟩
 have hn:¬(900:Int)<(l.length:Int):=by omega
 simp only[F8,hn,bc,aM]
 show ga _ ((U l).bind fh);refine oo (Φ:=ga) (yZ 4 _ _ h fun _ _=>by omega) (k':=iN) fun vt ⟨a,c⟩ st1 h1 e1=>?_
 simp only
 rw[bW,aG];by_cases hvt:vt=[83,84,79,87]
 ·rw[if_pos hvt];have e:iN vt=lg:=by funext l;simp only[iN,hvt,not_true,if_false]
  rw[e];show ga _ (st1.bind fun l=>(cP 60 gy l).bind fun p=>jf p.1 p.2);rw[jZ 60 gy jf];refine oo (Φ:=ga) (ig _ st1 h1) (k':=fun n l=>if 60<n then aj else(bR gy n.toNat l).bind fun q=>jf q.1 q.2) fun v0 ⟨a,c⟩ st2 h2 e2=>?_
  rw[gx];rw[mN v0 60 a c,ax];simp only
  rw[nZ 60 v0 st2 fun v l=>(bR gy v.toNat l).bind fun q=>jf q.1 q.2];have h3:=h2.cut (60<v0);have zv0':∀l,(if 60<v0 then aj else st2)=U l->(if 60<v0 then 0 else v0)=v0:=fun l=>n4 60 v0 l
  generalize (if 60<v0 then 0 else v0)=v0' at zv0' ⊢;refine Gn.loop (Φ:=ga) (fun out i s=>(v0'-(i:Int),(([]:List Cst),(0:Int),(0:Int),(0:Int),([]:List Int),([]:List Fld),([]:List Mth)),(out,(0:Int),(0:Int),(0:Int),([]:List Int),([]:List Fld),([]:List Mth)),s)) (fun out s=>((([]:List Cst),(0:Int),(0:Int),(0:Int),([]:List Int),([]:List Fld),([]:List Mth)),(out,(0:Int),(0:Int),(0:Int),([]:List Int),([]:List Fld),([]:List Mth)),s)) v0'.toNat gy h3 (k':=jf) (by simp) ?_ ?_ ?_
  ·intro out i ⟨a,c⟩ hs;have:=hs.2.1 rfl;simp only at this;subst this;by_cases hi:(0:Int)<v0'-(i:Int)<;>simp only[hi,ay,bc,aN,aM,Bool.not_true,aV]
  ·intro l hl;have hv:=j4 e2 hl;have hz:=zv0' l hl;refine⟨fun out ⟨a,c⟩ l hs=>?_,fun out i ⟨a,c⟩ l hi ho hs=>?_⟩
   ·have hi:¬((0:Int)<v0'-(v0'.toNat:Int)):=by omega
    simp only[hi,bc,aM,aV]
   ·have hi':(0:Int)<v0'-(i:Int):=by omega
    have hw:IntKind.wrap .i64 (v0'-(i:Int)-1)=v0'-((i+1:Nat):Int):=by rw[wI (by omega) (by omega)];omega
    have hc:=(hs.2.2 l rfl).1;simp only at hc;subst hc;simp only[hi',ay,aN,Bool.not_false,aJ]
    have ho1:out.length+1<=9223372036854775807:=by omega
    have ho2:(out.length+1)*40<=140737488355328:=by omega
    show St dV _ (fun w s'=>Sum.inl ((v0'-((i+1:Nat):Int),(([]:List Cst),(0:Int),(0:Int),(0:Int),([]:List Int),([]:List Fld),([]:List Mth)),(out++[w],(0:Int),(0:Int),(0:Int),([]:List Int),([]:List Fld),([]:List Mth)),s'))) ((U l).bind gy);refine uK (i60 _ _ hs) fun w0 ⟨a5,f_⟩=>?_
    simp only[ho1,ho2,ay,ck,aD,hw]
  ·intro out ⟨a,c⟩ st' hs;generalize out=vp;refine oo (Φ:=ga) (ig _ _ hs) (k':=mM vp) fun vf ⟨a,c⟩ st3 h4 e3=>?_
   refine oo (Φ:=ga) (ij _ _ h4) (k':=f_ vp vf) fun vn ⟨a,c⟩ st4 h5 e4=>?_
   refine oo (Φ:=ga) (ij _ _ h5) (k':=y_ vp vf vn) fun vs ⟨a,c⟩ st5 h6 e5=>?_
   show ga _ (st5.bind fun l=>(cP 3 g2 l).bind fun p=>ik vp vf vn vs p.1 p.2);rw[jZ 3 g2 (ik vp vf vn vs)];refine oo (Φ:=ga) (ig _ _ h6) (k':=fun n l=>if 3<n then aj else(bR g2 n.toNat l).bind fun q=>ik vp vf vn vs q.1 q.2) fun v1 ⟨a,c⟩ st6 h7 e6=>?_
   rw[gx];rw[mN v1 3 a c,ax];simp only
   rw[nZ 3 v1 st6 fun v l=>(bR g2 v.toNat l).bind fun q=>ik vp vf vn vs q.1 q.2];have h8:=h7.cut (3<v1);have zv1':∀l,(if 3<v1 then aj else st6)=U l->(if 3<v1 then 0 else v1)=v1:=fun l=>n4 3 v1 l
   generalize (if 3<v1 then 0 else v1)=v1' at zv1' ⊢;refine Gn.loop (Φ:=ga) (fun out i s=>(v1'-(i:Int),(([]:List Cst),(0:Int),(0:Int),(0:Int),([]:List Int),([]:List Fld),([]:List Mth)),(vp,vf,vn,vs,out,([]:List Fld),([]:List Mth)),s)) (fun out s=>((([]:List Cst),(0:Int),(0:Int),(0:Int),([]:List Int),([]:List Fld),([]:List Mth)),(vp,vf,vn,vs,out,([]:List Fld),([]:List Mth)),s)) v1'.toNat g2 h8 (k':=ik vp vf vn vs) (by simp) ?_ ?_ ?_
   ·intro out i ⟨a,c⟩ hs;have:=hs.2.1 rfl;simp only at this;subst this;by_cases hi:(0:Int)<v1'-(i:Int)<;>simp only[hi,ay,bc,aN,aM,Bool.not_true,aV]
   ·intro l hl;have hv:=j4 e6 hl;have hz:=zv1' l hl;refine⟨fun out ⟨a,c⟩ l hs=>?_,fun out i ⟨a,c⟩ l hi ho hs=>?_⟩
    ·have hi:¬((0:Int)<v1'-(v1'.toNat:Int)):=by omega
     simp only[hi,bc,aM,aV]
    ·have hi':(0:Int)<v1'-(i:Int):=by omega
     have hw:IntKind.wrap .i64 (v1'-(i:Int)-1)=v1'-((i+1:Nat):Int):=by rw[wI (by omega) (by omega)];omega
     have hc:=(hs.2.2 l rfl).1;simp only at hc;subst hc;simp only[hi',ay,aN,Bool.not_false,aJ]
     have ho1:out.length+1<=9223372036854775807:=by omega
     have ho2:(out.length+1)*8<=140737488355328:=by omega
     show St dV _ (fun w s'=>Sum.inl ((v1'-((i+1:Nat):Int),(([]:List Cst),(0:Int),(0:Int),(0:Int),([]:List Int),([]:List Fld),([]:List Mth)),(vp,vf,vn,vs,out++[w],([]:List Fld),([]:List Mth)),s'))) ((U l).bind g2);refine uK (ij _ _ hs) fun w0 ⟨a5,f_⟩=>?_
     simp only[ho1,ho2,ay,ck,aD,hw]
   ·intro out ⟨a,c⟩ st' hs;generalize out=fa;show ga _ (st'.bind fun l=>(cP 5 iM l).bind fun p=>j5 vp vf vn vs fa p.1 p.2);rw[jZ 5 iM (j5 vp vf vn vs fa)];refine oo (Φ:=ga) (ig _ _ hs) (k':=fun n l=>if 5<n then aj else(bR iM n.toNat l).bind fun q=>j5 vp vf vn vs fa q.1 q.2) fun v2 ⟨a,c⟩ st8 h9 e8=>?_
    rw[gx];rw[mN v2 5 a c,ax];simp only
    rw[nZ 5 v2 st8 fun v l=>(bR iM v.toNat l).bind fun q=>j5 vp vf vn vs fa q.1 q.2];have h10:=h9.cut (5<v2);have zv2':∀l,(if 5<v2 then aj else st8)=U l->(if 5<v2 then 0 else v2)=v2:=fun l=>n4 5 v2 l
    generalize (if 5<v2 then 0 else v2)=v2' at zv2' ⊢;refine Gn.loop (Φ:=ga) (fun out i s=>(v2'-(i:Int),(([]:List Cst),(0:Int),(0:Int),(0:Int),([]:List Int),([]:List Fld),([]:List Mth)),(vp,vf,vn,vs,fa,out,([]:List Mth)),s)) (fun out s=>((([]:List Cst),(0:Int),(0:Int),(0:Int),([]:List Int),([]:List Fld),([]:List Mth)),(vp,vf,vn,vs,fa,out,([]:List Mth)),s)) v2'.toNat iM h10 (k':=j5 vp vf vn vs fa) (by simp) ?_ ?_ ?_
    ·intro out i ⟨a,c⟩ hs;have:=hs.2.1 rfl;simp only at this;subst this;by_cases hi:(0:Int)<v2'-(i:Int)<;>simp only[hi,ay,bc,aN,aM,Bool.not_true,aV]
    ·intro l hl;have hv:=j4 e8 hl;have hz:=zv2' l hl;refine⟨fun out ⟨a,c⟩ l hs=>?_,fun out i ⟨a,c⟩ l hi ho hs=>?_⟩
     ·have hi:¬((0:Int)<v2'-(v2'.toNat:Int)):=by omega
      simp only[hi,bc,aM,aV]
     ·have hi':(0:Int)<v2'-(i:Int):=by omega
      have hw:IntKind.wrap .i64 (v2'-(i:Int)-1)=v2'-((i+1:Nat):Int):=by rw[wI (by omega) (by omega)];omega
      have hc:=(hs.2.2 l rfl).1;simp only at hc;subst hc;simp only[hi',ay,aN,Bool.not_false,aJ]
      have ho1:out.length+1<=9223372036854775807:=by omega
      have ho2:(out.length+1)*24<=140737488355328:=by omega
      show St dV _ (fun w s'=>Sum.inl ((v2'-((i+1:Nat):Int),(([]:List Cst),(0:Int),(0:Int),(0:Int),([]:List Int),([]:List Fld),([]:List Mth)),(vp,vf,vn,vs,fa,out++[w],([]:List Mth)),s'))) ((U l).bind iM);refine gf (ig _ _ hs) (k':=fun p l=>(g2 l).bind fun q=>(g2 q.2).bind fun r=>U ((p,q.1,r.1),r.2)) fun w0 ⟨a5,f_⟩ t0 g0=>?_
      refine gf (ij _ _ g0) (k':=fun q l=>(g2 l).bind fun r=>U ((w0,q,r.1),r.2)) fun w1 ⟨a6,gc6⟩ t1 g1=>?_
      refine gf (ij _ _ g1) (k':=fun r l=>U ((w0,w1,r),l)) fun w2 ⟨a7,ik⟩ t2 g2=>?_
      simp only[ho1,ho2,ay,ck,aD,hw]
      exact St.ret (mk:=fun w s'=>Sum.inl ((v2'-((i+1:Nat):Int),(([]:List Cst),(0:Int),(0:Int),(0:Int),([]:List Int),([]:List Fld),([]:List Mth)),(vp,vf,vn,vs,fa,out++[w],([]:List Mth)),s'))) g2 _
    ·intro out ⟨a,c⟩ st' hs;generalize out=fi;show ga _ (st'.bind fun l=>(cP 6 f9 l).bind fun p=>U ((vp,vf,vn,vs,fa,fi,p.1),p.2));rw[jZ 6 f9 fun p l=>U ((vp,vf,vn,vs,fa,fi,p),l)];refine oo (Φ:=ga) (ig _ _ hs) (k':=fun n l=>if 6<n then aj else(bR f9 n.toNat l).bind fun q=>U ((vp,vf,vn,vs,fa,fi,q.1),q.2)) fun v3 ⟨a,c⟩ st9 h11 e9=>?_
     rw[gx];rw[mN v3 6 a c,ax];simp only
     rw[nZ 6 v3 st9 fun v l=>(bR f9 v.toNat l).bind fun q=>U ((vp,vf,vn,vs,fa,fi,q.1),q.2)];have h12:=h11.cut (6<v3);have zv3':∀l,(if 6<v3 then aj else st9)=U l->(if 6<v3 then 0 else v3)=v3:=fun l=>n4 6 v3 l
     generalize (if 6<v3 then 0 else v3)=v3' at zv3' ⊢;refine Gn.loop (Φ:=ga) (fun out i s=>(v3'-(i:Int),(([]:List Cst),(0:Int),(0:Int),(0:Int),([]:List Int),([]:List Fld),([]:List Mth)),(vp,vf,vn,vs,fa,fi,out),s)) (fun out s=>((([]:List Cst),(0:Int),(0:Int),(0:Int),([]:List Int),([]:List Fld),([]:List Mth)),(vp,vf,vn,vs,fa,fi,out),s)) v3'.toNat f9 h12 (k':=fun p l=>U ((vp,vf,vn,vs,fa,fi,p),l)) (by simp) ?_ ?_ ?_
     ·intro out i ⟨a,c⟩ hs;have:=hs.2.1 rfl;simp only at this;subst this;by_cases hi:(0:Int)<v3'-(i:Int)<;>simp only[hi,ay,bc,aN,aM,Bool.not_true,aV]
     ·intro l hl;have hv:=j4 e9 hl;have hz:=zv3' l hl;refine⟨fun out ⟨a,c⟩ l hs=>?_,fun out i ⟨a,c⟩ l hi ho hs=>?_⟩
      ·have hi:¬((0:Int)<v3'-(v3'.toNat:Int)):=by omega
       simp only[hi,bc,aM,aV]
      ·have hi':(0:Int)<v3'-(i:Int):=by omega
       have hw:IntKind.wrap .i64 (v3'-(i:Int)-1)=v3'-((i+1:Nat):Int):=by rw[wI (by omega) (by omega)];omega
       have hc:=(hs.2.2 l rfl).1;simp only at hc;subst hc;simp only[hi',ay,aN,Bool.not_false,aJ]
       have ho1:out.length+1<=9223372036854775807:=by omega
       have ho2:(out.length+1)*104<=140737488355328:=by omega
       show St dV _ (fun w s'=>Sum.inl ((v3'-((i+1:Nat):Int),(([]:List Cst),(0:Int),(0:Int),(0:Int),([]:List Int),([]:List Fld),([]:List Mth)),(vp,vf,vn,vs,fa,fi,out++[w]),s'))) ((U l).bind f9);refine uK (i62 _ _ hs) fun w0 ⟨a5,f_⟩=>?_
       simp only[ho1,ho2,ay,ck,aD,hw]
     ·intro out ⟨a,c⟩ st' hs;cases st' with
      | none=>
        have:=hs.2.1 rfl;simp only at this;subst this;rfl
      | some l' =>
        obtain⟨hc,rfl⟩:=hs.2.2 l' rfl;simp only at hc;subst hc;simp only[aM,bW,aG,bh]
        by_cases hr:l'=[]
        ·subst hr;rfl
        ·rw[if_neg hr];cases l' with
         |nil=>exact absurd rfl hr
         |cons x y=>rfl
 ·rw[if_neg hvt];have e:st1.bind (iN vt)=aj:=by cases st1<;>simp[iN,hvt]
  rw[e];rfl
end Go.Proofs.YtmjlecabpbiigaaGreat
end
section
namespace Go.TM
open Go.AM
section
variable {α X Y:Type}
def Dm {f:X->Option (X⊕Y)}(mk:List UInt8->Nat->X)(fin:List UInt8->Y)(l:List α)(p:α->List UInt8)(K:Nat)(hK:∀ x∈l,(p x).length<=K)
  (b:Nat) (hend:∀out,f (mk out l.length)=U (.inr (fin out)))
  (hstep:∀out i (h:i<l.length),out.length<=b+i*K->f (mk out i)=U (.inl (mk (out++p l[i]) (i+1)))) :
  ∀(out:List UInt8),out.length<=b->aE f (mk out 0)=U (fin (out++(l.map p).flatten))/\(out++(l.map p).flatten).length<=b+l.length*K:=by
 have key:∀(m i:Nat) (out:List UInt8),i+m=l.length->out.length<=b+i*K->aE f (mk out i)=U (fin (out++((l.drop i).map p).flatten))/\(out++((l.drop i).map p).flatten).length<=b+l.length*K:=by
  intro m
  induction m with
  | zero=>
    intro i out hi ho;have:i=l.length:=by omega
    subst this;rw[eV,hend,List.drop_eq_nil_of_le (bJ _)];exact⟨by simp,by simpa using ho⟩
  | succ m ih=>
    intro i out hi ho;have h:i<l.length:=by omega
    rw[eV,hstep out i h ho];have hk:=hK l[i] (List.getElem_mem h);have e:(i+1)*K=i*K+K:=by rw[Nat.add_mul];omega
    have:=ih (i+1) (out++p l[i]) (by omega) (by rw[aP,e];omega);rw[kv h,bF,List.flatten_cons,<-bD];exact this
 intro out ho;have:=key l.length 0 out (by omega) (by omega);simpa using this
def kC {R:Type}{f:X->Option (X⊕(Y⊕R))}(mk:List UInt8->Nat->X)(fin:List UInt8->Y)(l:List α)(p:α->List UInt8)(K:Nat)(hK:∀ x∈l,(p x).length<=K)
  (b:Nat) {out:List UInt8} {k:Y->Option R} {x0:X} {r:Option R} (hx:x0=mk out 0) (ho:out.length<=b) (hend:∀out,f (mk out l.length)=U (.inr (.inl (fin out))))
  (hstep:∀out i (h:i<l.length),out.length<=b+i*K->f (mk out i)=U (.inl (mk (out++p l[i]) (i+1))))
  (hk:(out++(l.map p).flatten).length<=b+l.length*K->k (fin (out++(l.map p).flatten))=r):bindE (aE f x0) k=r:=by
 obtain⟨h1,h2⟩:=Dm mk (fun out=>(.inl (fin out):Y⊕R)) l p K hK b hend hstep out ho;rw[hx,h1,aJ];exact hk h2
def rh (l:List α)(p:α->List UInt8)(K:Nat)(hK:∀ x∈l,(p x).length<=K):((l.map p).flatten).length<=l.length*K:=by
 induction l with
 |nil=>simp
 | cons x l ih=>
   have:=ih fun x hx=>hK x (by simp[hx])
   have:=hK x (by simp);simp only[bF,List.flatten_cons,aP,bL,Nat.add_mul]
   omega
end
end Go.TM
namespace Go.Proofs.YtmjlecabpbiigaaGreat
open Go Go.AM Go.TM
def w1 (n:Int):List UInt8:=[UInt8.ofNat (IntKind.wrap .u8 n).toNat]
def tS (n:Int):List UInt8:=w1 (IntKind.wrap .i64 (Int.tdiv n 256))++w1 (Int.tmod n 256)
def tI (n:Int):List UInt8:=w1 (Int.fdiv n 256)++w1 n
def za (n:Int):0<=IntKind.wrap .u8 n/\IntKind.wrap .u8 n<=255:=by
 have h:IntKind.wrap .u8 n=n % 256:=by
  simp[IntKind.wrap,IntKind.bits,IntKind.signed]
 rw[h];omega
@[simp] def b9 (n:Int):(w1 n).length=1:=by unfold w1;simp
@[simp] def dg (n:Int):(tS n).length=2:=by unfold tS;simp
@[simp] def c_ (n:Int):(tI n).length=2:=by unfold tI;simp
def rj (n:Int):eK n=U (w1 n):=by
 have:=za n;simp only[eK]
 rw[mJ,cb this.1,cb this.2];rfl
def Dn (n:Int):eB n=U (w1 n):=rj n
def ud (n:Int):eZ n=U (tS n):=by
 have h1:=za (IntKind.wrap .i64 (Int.tdiv n 256));have h2:=za (Int.tmod n 256);simp only[eZ]
 rw[mJ,cb h1.1,cb h1.2,mJ,cb h2.1,cb h2.2];rfl
def Kl (n:Int):fg n=U (tI n):=by
 simp only[fg,Dn,ax]
 rw[cb (by simp)];rfl
def gA (two:Int->List UInt8)(c:Cst):List UInt8:=w1 c.1++if c.1=1 then w1 c.2.1.length++c.2.1 else if c.1=2 then two c.2.2.1 else two c.2.2.1++two c.2.2.2
def iO (two:Int->List UInt8)(k:Knd):List UInt8:=w1 k.1++if k.1=3 then two k.2 else []
def kD (two:Int->List UInt8)(l:List Knd):List UInt8:=w1 l.length++(l.map (iO two)).flatten
def gC (two:Int->List UInt8)(t:Trp):List UInt8:=two t.1++(two t.2.1++(two t.2.2.1++two t.2.2.2))
def fL (two:Int->List UInt8)(t:Frm):List UInt8:=two t.1++(kD two t.2.1++kD two t.2.2)
def jE (two:Int->List UInt8)(t:Fld):List UInt8:=w1 t.1++(two t.2.1++two t.2.2)
def dI (two:Int->List UInt8)(ab:Int->Bool)(m:Mth):List UInt8:=w1 m.1++(two m.2.1++(two m.2.2.1++if ab m.1=ae then []else
 w1 m.2.2.2.1++(w1 m.2.2.2.2.1++(two m.2.2.2.2.2.1.length++(m.2.2.2.2.2.1++(w1 m.2.2.2.2.2.2.1.length++((m.2.2.2.2.2.2.1.map (gC two)).flatten++(w1 m.2.2.2.2.2.2.2.length++(m.2.2.2.2.2.2.2.map (fL two)).flatten))))))))
def cJ (two:Int->List UInt8)(ab:Int->Bool)(c:Cls):List UInt8:=[83,84,79,87]++(w1 c.1.length++((c.1.map (gA two)).flatten++(w1 c.2.1++(two c.2.2.1++(two c.2.2.2.1++(w1 c.2.2.2.2.1.length++((c.2.2.2.2.1.map two).flatten ++
 (w1 c.2.2.2.2.2.1.length++((c.2.2.2.2.2.1.map (jE two)).flatten++(w1 c.2.2.2.2.2.2.length++(c.2.2.2.2.2.2.map (dI two ab)).flatten))))))))))
def zbK (c:Cst)(h:nY c):xo c=U (gA tS c):=by
 obtain⟨c0,c1,c2,c3⟩:=c;simp only[nY]at h;simp only[xo,rj,ud,ax,aG,ay,aD,bE,aP,b9,dg,gA]
 by_cases h1:c0=1
 ·simp (discharger:=omega) only[h1,if_true,cb,bD]
 ·by_cases h2:c0=2
  ·subst h2;simp (discharger:=omega) only[Int.reduceEq,↓reduceIte,cb,bE,bD]
  ·simp (discharger:=omega) only[h1,h2,if_true,if_false,cb,bE,bD]
def Km (l:List Knd)(h:kx l):tq l=U (kD tS l):=by
 simp only[kx]at h;simp only[tq,rj,ud,ax]
 refine(congrArg (bindE · _) (Dm (fun out i=>(l,out,(i:Int))) (fun out=>(Sum.inl out:List UInt8⊕List UInt8)) l (iO tS) 3 (fun x _=>by simp only[iO];split<;>simp) 1 ?_ ?_ (w1 l.length) (by simp)).1).trans rfl
 ·intro out;simp only[bH,bc,aM]
 ·intro out i hi ho;have hi':(i:Int)<l.length:=by omega
  have h0:(0:Int)<=i:=by omega
  simp (discharger:=omega) only[hi',h0,ay,aN,aD,aS,bq,aG,fC]
  by_cases hk:l[i].1=3 <;>
  ·simp (discharger:=omega) only[hk,iO,↓reduceIte,cb,b9,dg,aP,aJ,wI,bD,cB]
   rfl
section
variable {two:Int->List UInt8}(h2:∀ n,(two n).length=2)
include h2
def rl (l:List Knd)(h:kx l):(kD two l).length<=3145729:=by
 have:=rh l (iO two) 3 fun x _=>by simp only[iO];split<;>simp[h2]
 simp only[kx]at h;simp only[kD,aP,b9]
 omega
def Do (t:Trp):(gC two t).length<=8:=by simp[gC,h2]
def Dp (t:Frm)(h:mK t):(fL two t).length<=6291460:=by
 have q1:=rl h2 _ h.1;have q2:=rl h2 _ h.2;simp only[fL,aP,h2]
 omega
def Dq (c:Cst)(h:nY c):(gA two c).length<=1048586:=by
 simp only[nY]at h;unfold gA;split
 ·simp only[aP,b9];omega
 ·split<;>simp[h2]
def Dr (ab:Int->Bool)(m:Mth)(h:ld m):(dI two ab m).length<=8796093022208:=by
 obtain⟨a1,a2,a3,a4⟩:=h;have q1:=rh m.2.2.2.2.2.2.1 (gC two) 8 fun x _=>Do h2 x
 have q2:=rh m.2.2.2.2.2.2.2 (fL two) 6291460 fun x hx=>Dp h2 x (a4 x hx)
 unfold dI;split
 ·simp[h2]
 ·simp only[aP,b9,h2]
  omega
end
def cH (f:Int):Bool:=aa (IntKind.wrap .i64 (Int.tdiv (Int.tmod f 16) 8)=1)
def dQ (f:Int):Bool:=!aa (dK .i64 f 8=0)
def zbL (m:Mth)(h:ld m):xq m=U (dI tS cH m):=by
 obtain⟨m0,m1,m2,m3,m4,m5,m6,m7⟩:=m;obtain⟨a1,a2,a3,a4⟩:=h;simp only at a1 a2 a3 a4;simp (discharger:=omega) only[xq,rj,ud,ax,ay,aD,bE,aP,b9,dg,cb,ck,aG]
 by_cases hab:IntKind.wrap .i64 (Int.tdiv (Int.tmod m0 16) 8)=1
 ·simp only[hab,dI,cH,ay,if_true,bD,cB]
 ·simp only[hab,if_false]
  refine kC (fun out i=>(out,(i:Int),m0,m1,m2,m3,m4,m5,m6,m7)) (fun out=>(out,m0,m1,m2,m3,m4,m5,m6,m7)) m6 (gC tS) 8 (fun x _=>Do dg x) 1048600 rfl (by simp only[aP,b9,dg];omega) ?_ ?_ ?_
  ·intro out;simp only[bH,bc,aM,if_false]
  ·intro out i hi ho;have hi':(i:Int)<m6.length:=by omega
   have h0:(0:Int)<=i:=by omega
   simp (discharger:=omega) only[hi',h0,ay,aN,if_true,aD,aS,bq,ax,bE,cb,b9,dg,aP,wI,gC,bD]
   rfl
  ·intro hl;simp only[aP,b9,dg]at hl;simp (discharger:=omega) only[ax,cb,aP,b9,dg]
   refine kC (fun out i=>(out,(i:Int),m0,m1,m2,m3,m4,m5,m6,m7)) (fun out=>out) m7 (fL tS) 6291460 (fun x hx=>Dp dg x (a4 x hx)) 10000000 rfl (by simp only[aP,b9,dg];omega) ?_ ?_ ?_
   ·intro out;simp only[bH,bc,aM,if_false]
   ·intro out i hi ho;have hi':(i:Int)<m7.length:=by omega
    have h0:(0:Int)<=i:=by omega
    have hb:=a4 _ (List.getElem_mem hi);have q1:=Km _ hb.1;have q2:=Km _ hb.2;have l1:=rl dg _ hb.1;have l2:=rl dg _ hb.2;simp (discharger:=omega) only[hi',h0,ay,aN,if_true,aD,aS,bq,q1,q2,ax,bE,cb,b9,dg,aP,wI,fL,bD]
    rfl
   ·intro _;simp only[dI,cH,hab,bc,cV,if_false,bD]
end Go.Proofs.YtmjlecabpbiigaaGreat
end
namespace Go.Proofs.YtmjlecabpbiigaaGreat
section
open Go Go.AM Go.TM
def iP (c:Cls):Prop:=c.1.length<=60/\c.2.2.2.2.1.length<=3/\c.2.2.2.2.2.1.length<=5/\c.2.2.2.2.2.2.length<=6
instance (c:Cls):Decidable (iP c):=inferInstanceAs (Decidable (_/\_/\_/\_))
def Ko {two:Int->List UInt8}(h2:∀ n,(two n).length=2)(t:Fld):(jE two t).length<=5:=by simp[jE,h2]
def zb (c:Cls)(h:je c)(hf:iP c):mF c=U (cJ tS cH c):=by
 obtain⟨c0,c1,c2,c3,c4,c5,c6⟩:=c;obtain⟨⟨a1,a2⟩,a3,a4,a5,a6⟩:=h;obtain⟨f1,f2,f3,f4⟩:=hf;simp only at a1 a2 a3 a4 a5 a6 f1 f2 f3 f4;simp (discharger:=omega) only[mF,rj,ud,ax,ay,aD,bE,aP,b9,dg,cb,ck]
 refine kC (fun out i=>(out,(i:Int),c0,c1,c2,c3,c4,c5,c6)) (fun out=>(out,c0,c1,c2,c3,c4,c5,c6)) c0 (gA tS) 1048586 (fun x hx=>Dq dg x (a2 x hx)) 10 rfl (by simp) ?_ ?_ ?_
 ·intro out;simp only[bH,bc,aM,if_false]
 ·intro out i hi ho;have hi':(i:Int)<c0.length:=by omega
  have h0:(0:Int)<=i:=by omega
  have hb:=a2 _ (List.getElem_mem hi);have q1:=zbK _ hb;have l1:=Dq dg _ hb;simp (discharger:=omega) only[hi',h0,ay,aN,if_true,aD,aS,bq,q1,ax,bE,cb,wI]
  rfl
 intro hl;simp only[aP,b9,dg]at hl;simp (discharger:=omega) only[ax,cb,ay,aD,bE,aP,b9,dg]
 refine kC (fun out i=>(out,(i:Int),c0,c1,c2,c3,c4,c5,c6)) (fun out=>(out,c0,c1,c2,c3,c4,c5,c6)) c4 tS 2 (fun x hx=>by simp) 70000000 rfl (by simp only[aP,b9,dg];omega) ?_ ?_ ?_
 ·intro out;simp only[bH,bc,aM,if_false]
 ·intro out i hi ho;have hi':(i:Int)<c4.length:=by omega
  have h0:(0:Int)<=i:=by omega
  simp (discharger:=omega) only[hi',h0,ay,aN,if_true,aD,aS,bq,ax,bE,cb,dg,wI]
  rfl
 intro hl2;simp only[aP,b9,dg]at hl2;simp (discharger:=omega) only[ax,cb,ay,aD,bE,aP,b9,dg]
 refine kC (fun out i=>(out,(i:Int),c0,c1,c2,c3,c4,c5,c6)) (fun out=>(out,c0,c1,c2,c3,c4,c5,c6)) c5 (jE tS) 5 (fun x hx=>Ko dg x) 80000000 rfl (by simp only[aP,b9,dg];omega) ?_ ?_ ?_
 ·intro out;simp only[bH,bc,aM,if_false]
 ·intro out i hi ho;have hi':(i:Int)<c5.length:=by omega
  have h0:(0:Int)<=i:=by omega
  simp (discharger:=omega) only[hi',h0,ay,aN,if_true,aD,aS,bq,ax,bE,cb,b9,dg,aP,wI,jE,bD,ck]
  rfl
 intro hl3;simp only[aP,b9,dg]at hl3;simp (discharger:=omega) only[ax,cb,ay,aD,bE,aP,b9,dg]
 refine kC (fun out i=>(out,(i:Int),c0,c1,c2,c3,c4,c5,c6)) (fun out=>out) c6 (dI tS cH) 8796093022208 (fun x hx=>Dr dg cH x (a6 x hx)) 90000000 rfl (by simp only[aP,b9,dg];omega) ?_ ?_ ?_
 ·intro out;simp only[bH,bc,aM,if_false]
 ·intro out i hi ho;have hi':(i:Int)<c6.length:=by omega
  have h0:(0:Int)<=i:=by omega
  have hb:=a6 _ (List.getElem_mem hi);have q1:=zbL _ hb;have l1:=Dr dg cH _ hb;simp (discharger:=omega) only[hi',h0,ay,aN,if_true,aD,aS,bq,q1,ax,bE,cb,wI]
  rfl
 ·intro _;simp only[cJ,bD]
def Kp (l:List Knd)(h:kx l):tO l=U (kD tI l):=by
 simp only[kx]at h;simp only[tO,Dn,Kl,ax]
 refine(congrArg (bindE · _) (Dm (fun out i=>(out,l,(l.length:Int),(i:Int))) (fun out=>(Sum.inl out:List UInt8⊕List UInt8)) l (iO tI) 3 (fun x _=>by simp only[iO];split<;>simp) 1 ?_ ?_ (w1 l.length) (by simp)).1).trans rfl
 ·intro out;simp only[bH,bc,aM]
 ·intro out i hi ho;have hi':(i:Int)<l.length:=by omega
  have h0:(0:Int)<=i:=by omega
  simp (discharger:=omega) only[hi',h0,ay,aN,aD,aS,bq,aG,fC]
  by_cases hk:l[i].1=3 <;>
  ·simp (discharger:=omega) only[hk,iO,↓reduceIte,cb,b9,c_,aP,aJ,wI,bD,cB]
   rfl
def mO:([83,84,79,87]:List UInt8).length=4:=by decide
def Ds (n:Int):k9 n=U (dQ n):=rfl
def p67 (c:Cls)(h:je c)(hf:iP c):yh c=U (cJ tI dQ c):=by
 obtain⟨c0,c1,c2,c3,c4,c5,c6⟩:=c;obtain⟨⟨a1,a2⟩,a3,a4,a5,a6⟩:=h;obtain⟨f1,f2,f3,f4⟩:=hf;simp only at a1 a2 a3 a4 a5 a6 f1 f2 f3 f4;simp (discharger:=omega) only[yh,Dn,Kl,Ds,ax,ay,aD,bE,aP,b9,c_,cb,ck]
 refine kC (fun out i=>(out,c0,(c0.length:Int),(i:Int),c0,c1,c2,c3,c4,c5,c6)) (fun out=>(out,c0,c1,c2,c3,c4,c5,c6)) c0 (gA tI) 1048586 (fun x hx=>Dq c_ x (a2 x hx)) 10 rfl (by simp) ?_ ?_ ?_
 ·intro out;simp only[bH,bc,aM,if_false]
 ·intro out i hi ho;have hi':(i:Int)<c0.length:=by omega
  have h0:(0:Int)<=i:=by omega
  have hb:=a2 _ (List.getElem_mem hi);simp only[nY]at hb;simp (discharger:=omega) only[hi',h0,ay,aN,if_true,aD,aS,bq,ax,bE,cb,b9,c_,aP,wI,aG,fC]
  by_cases e1:c0[i].1=1
  ·simp (discharger:=omega) only[e1,gA,↓reduceIte,aJ,cb,bE,b9,c_,aP,bD,wI]
   rfl
  ·by_cases e2:c0[i].1=2
   ·simp (discharger:=omega) only[e2,gA,Int.reduceEq,↓reduceIte,aJ,cb,bE,b9,c_,aP,bD,wI]
    rfl
   ·simp (discharger:=omega) only[e1,e2,gA,↓reduceIte,aJ,cb,bE,b9,c_,aP,bD,wI]
    rfl
 intro hl;simp only[aP,b9,c_,mO]at hl;simp (discharger:=omega) only[ax,cb,ay,aD,bE,aP,b9,c_,mO]
 refine kC (fun out i=>(out,c4,(c4.length:Int),(i:Int),c0,c1,c2,c3,c4,c5,c6)) (fun out=>(out,c0,c1,c2,c3,c4,c5,c6)) c4 tI 2 (fun x hx=>by simp) 70000000 rfl (by simp only[aP,b9,c_,mO];omega) ?_ ?_ ?_
 ·intro out;simp only[bH,bc,aM,if_false]
 ·intro out i hi ho;have hi':(i:Int)<c4.length:=by omega
  have h0:(0:Int)<=i:=by omega
  simp (discharger:=omega) only[hi',h0,ay,aN,if_true,aD,aS,bq,ax,bE,cb,b9,c_,aP,wI,bD,ck]
  rfl
 intro hl2;simp only[aP,b9,c_,mO]at hl2;simp (discharger:=omega) only[ax,cb,ay,aD,bE,aP,b9,c_,mO]
 refine kC (fun out i=>(out,c5,(c5.length:Int),(i:Int),c0,c1,c2,c3,c4,c5,c6)) (fun out=>(out,c0,c1,c2,c3,c4,c5,c6)) c5 (jE tI) 5 (fun x hx=>Ko c_ x) 80000000 rfl (by simp only[aP,b9,c_,mO];omega) ?_ ?_ ?_
 ·intro out;simp only[bH,bc,aM,if_false]
 ·intro out i hi ho;have hi':(i:Int)<c5.length:=by omega
  have h0:(0:Int)<=i:=by omega
  simp (discharger:=omega) only[hi',h0,ay,aN,if_true,aD,aS,bq,jE,ax,bE,cb,b9,c_,aP,wI,bD,ck]
  rfl
 intro hl3;simp only[aP,b9,c_,mO]at hl3;simp (discharger:=omega) only[ax,cb,ay,aD,bE,aP,b9,c_,mO]
 refine kC (fun out i=>(out,c6,(c6.length:Int),(i:Int))) (fun out=>out) c6 (dI tI dQ) 8796093022208 (fun x hx=>Dr c_ dQ x (a6 x hx)) 90000000 rfl (by simp only[aP,b9,c_,mO];omega) ?_ ?_ ?_
 ·intro out;simp only[bH,bc,aM,if_false]
 ·intro out i hi ho;have hi':(i:Int)<c6.length:=by omega
  have h0:(0:Int)<=i:=by omega
  have hb:=a6 _ (List.getElem_mem hi);rcases hm:c6[i]with⟨m0,m1,m2,m3,m4,m5,m6,m7⟩;rw[hm]at hb;obtain⟨b1,b2,b3,b4⟩:=hb;simp only at b1 b2 b3 b4;simp (discharger:=omega) only[hi',h0,ay,aN,if_true,aD,aS,bq,hm,Ds,ax,bE,cb,b9,c_,aP,wI]
  cases hab:dQ m0 with
  | true=>
    simp (discharger:=omega) only[aN,aJ,dI,hab,if_true,bD,cB,wI]
    rfl
  |false=>
  simp (discharger:=omega) only[aM,ax,bE,cb,ay,aD,b9,c_,aP]
  refine(congrArg (bindE · _) (?_:_=U (Sum.inl (out++dI tI dQ (m0,m1,m2,m3,m4,m5,m6,m7),c6,(c6.length:Int),(i:Int))))).trans (by simp (discharger:=omega) only[aJ,wI];rfl);refine kC (fun out j=>(out,c6,(c6.length:Int),(i:Int),m6,(m6.length:Int),(j:Int),m0,m1,m2,m3,m4,m5,m6,m7)) (fun out=>(out,c6,(c6.length:Int),(i:Int),m0,m1,m2,m3,m4,m5,m6,m7)) m6 (gC tI) 8 (fun x hx=>Do c_ x) 100000000000000 rfl (by simp only[aP,b9,c_];omega) ?_ ?_ ?_
  ·intro out;simp only[bH,bc,aM,if_false]
  ·intro out j hj ho2;have hj':(j:Int)<m6.length:=by omega
   have h0:(0:Int)<=j:=by omega
   simp (discharger:=omega) only[hj',h0,ay,aN,if_true,aD,aS,bq,gC,ax,bE,cb,b9,c_,aP,wI,bD,ck]
   rfl
  intro hl4;simp only[aP,b9,c_]at hl4;simp (discharger:=omega) only[ax,cb,ay,aD,bE,aP,b9,c_]
  refine kC (fun out j=>(out,c6,(c6.length:Int),(i:Int),m7,(m7.length:Int),(j:Int))) (fun out=>(out,c6,(c6.length:Int),(i:Int))) m7 (fL tI) 6291460 (fun x hx=>Dp c_ x (b4 x hx)) 200000000000000 rfl (by simp only[aP,b9,c_];omega) ?_ ?_ ?_
  ·intro out;simp only[bH,bc,aM,if_false]
  ·intro out j hj ho2;have hj':(j:Int)<m7.length:=by omega
   have h0:(0:Int)<=j:=by omega
   have hb:=b4 _ (List.getElem_mem hj);have q1:=Kp _ hb.1;have q2:=Kp _ hb.2;have l1:=rl c_ _ hb.1;have l2:=rl c_ _ hb.2;simp (discharger:=omega) only[hj',h0,ay,aN,if_true,aD,aS,bq,q1,q2,fL,ax,bE,cb,b9,c_,aP,wI,bD,ck]
   rfl
  intro _;simp only[dI,hab,cV,if_false,bD]
 ·intro _;simp only[cJ,bD]
def i1 (n:Int):Prop:=0<=n/\n<=255
def i2 (n:Int):Prop:=0<=n/\n<=65535
def zc (c:Cst):Prop:=(1<=c.1/\c.1<=6)/\c.2.1.length<=255/\i2 c.2.2.1/\i2 c.2.2.2
def Dt (k:Knd):Prop:=(0<=k.1/\k.1<=3)/\i2 k.2
def zd (l:List Knd):Prop:=l.length<=8/\∀k∈l,Dt k
def Du (t:Trp):Prop:=i2 t.1/\i2 t.2.1/\i2 t.2.2.1/\i2 t.2.2.2
def rm (f:Frm):Prop:=i2 f.1/\zd f.2.1/\zd f.2.2
def Dv (t:Fld):Prop:=i1 t.1/\i2 t.2.1/\i2 t.2.2
def lT (m:Mth):Prop:=i1 m.1/\i2 m.2.1/\i2 m.2.2.1/\i1 m.2.2.2.1/\i1 m.2.2.2.2.1/\m.2.2.2.2.2.1.length<=120/\(m.2.2.2.2.2.2.1.length<=3/\∀t∈m.2.2.2.2.2.2.1,Du t)/\m.2.2.2.2.2.2.2.length<=8/\∀f∈m.2.2.2.2.2.2.2,rm f
def gS (c:Cls):Prop:=iP c/\(∀x∈c.1,zc x)/\i1 c.2.1/\i2 c.2.2.1/\i2 c.2.2.2.1/\(∀x∈c.2.2.2.2.1,i2 x)/\(∀x∈c.2.2.2.2.2.1,Dv x)/\∀x∈c.2.2.2.2.2.2,lT x
def bf {α β:Type}{m:Option α}{k:α->Option β}{r:β}(h:m.bind k=U r):∃a,m=U a/\k a=U r:=by
 cases m with
 |none=>cases h
 |some a=>exact⟨a,rfl,h⟩
def Kr {n:Int}{l:List UInt8}{p:List UInt8×List UInt8}(h:gT n l=U p):p.1.length<=n.toNat:=by
 unfold gT at h;split at h
 ·simp only[aF]at h;rw[<-h];simp only[bT];omega
 ·cases h
def mP {β:Type}{most:Int}{g:List UInt8->Option (β×List UInt8)}{P:β->Prop}(hg:∀ l v l',g l=U (v,l')->P v){l l':List UInt8}{vs:List β}(h:cP most g l=U (vs,l')):(vs.length:Int)<=most/\∀v∈vs,P v:=by
 obtain⟨p,h1,h2⟩:=bf h;split at h2
 ·cases h2
 ·have:=f8 (l:=l) (v:=p.1) (l':=p.2) h1;have:=Dk _ _ _ _ h2;exact⟨by omega,Ke hg _ _ _ _ h2⟩
def iQ (l:List UInt8)(v:Int)(l':List UInt8)(h:g2 l=U (v,l')):i2 v:=yY h
def ue (l:List UInt8)(v:Int)(l':List UInt8)(h:g1 l=U (v,l')):i1 v:=f8 h
def zbM (l:List UInt8)(v:Cst)(l':List UInt8)(h:gy l=U (v,l')):zc v:=by
 obtain⟨⟨t,l1⟩,h1,h2⟩:=bf h;simp only at h2;unfold iJ at h2;split at h2
 ·obtain⟨⟨n,l2⟩,h3,h4⟩:=bf h2;obtain⟨q,h5,h6⟩:=bf h4;simp only[aF,bm]at h6;obtain⟨rfl,_⟩:=h6;have:=f8 h3;have:=Kr h5;refine⟨⟨by simp,by simp⟩,by simp only;omega,⟨by simp,by simp⟩,⟨by simp,by simp⟩⟩
 ·split at h2
  ·obtain⟨⟨n,l2⟩,h3,h4⟩:=bf h2;simp only[aF,bm]at h4;obtain⟨rfl,_⟩:=h4;exact⟨⟨by simp,by simp⟩,by simp,iQ _ _ _ h3,⟨by simp,by simp⟩⟩
  ·split at h2
   ·rename_i ht;obtain⟨⟨n,l2⟩,h3,h4⟩:=bf h2;obtain⟨⟨n2,l3⟩,h5,h6⟩:=bf h4;simp only[aF,bm]at h6;obtain⟨rfl,_⟩:=h6;exact⟨⟨by simp only;omega,by simp only;omega⟩,by simp,iQ _ _ _ h3,iQ _ _ _ h5⟩
   ·cases h2
def Ks (l:List UInt8)(v:Knd)(l':List UInt8)(h:eh l=U (v,l')):Dt v:=by
 obtain⟨⟨t,l1⟩,h1,h2⟩:=bf h;simp only at h2;have:=f8 h1;split at h2
 ·obtain⟨⟨n,l2⟩,h3,h4⟩:=bf h2;simp only[aF,bm]at h4;obtain⟨rfl,_⟩:=h4;exact⟨⟨by simp,by simp⟩,iQ _ _ _ h3⟩
 ·split at h2
  ·cases h2
  ·simp only[aF,bm]at h2;obtain⟨rfl,_⟩:=h2;exact⟨⟨by simp only;omega,by simp only;omega⟩,⟨by simp,by simp⟩⟩
def zbN (l:List UInt8)(v:Trp)(l':List UInt8)(h:iK l=U (v,l')):Du v:=by
 obtain⟨⟨a,_⟩,h1,h⟩:=bf h;obtain⟨⟨b,_⟩,h2,h⟩:=bf h;obtain⟨⟨c,_⟩,h3,h⟩:=bf h;obtain⟨⟨d,_⟩,h4,h⟩:=bf h;simp only[aF,bm]at h;obtain⟨rfl,_⟩:=h;exact⟨iQ _ _ _ h1,iQ _ _ _ h2,iQ _ _ _ h3,iQ _ _ _ h4⟩
def zbO (l:List UInt8)(v:Frm)(l':List UInt8)(h:iL l=U (v,l')):rm v:=by
 obtain⟨⟨a,_⟩,h1,h⟩:=bf h;obtain⟨⟨b,_⟩,h2,h⟩:=bf h;obtain⟨⟨c,_⟩,h3,h⟩:=bf h;simp only[aF,bm]at h;obtain⟨rfl,_⟩:=h;obtain⟨q1,q2⟩:=mP Ks h2;obtain⟨r1,r2⟩:=mP Ks h3;exact⟨iQ _ _ _ h1,⟨by simp only;omega,q2⟩,⟨by simp only;omega,r2⟩⟩
def zbP (l:List UInt8)(v:Fld)(l':List UInt8)(h:iM l=U (v,l')):Dv v:=by
 obtain⟨⟨a,_⟩,h1,h⟩:=bf h;obtain⟨⟨b,_⟩,h2,h⟩:=bf h;obtain⟨⟨c,_⟩,h3,h⟩:=bf h;simp only[aF,bm]at h;obtain⟨rfl,_⟩:=h;exact⟨ue _ _ _ h1,iQ _ _ _ h2,iQ _ _ _ h3⟩
def zbQ (l:List UInt8)(v:Mth)(l':List UInt8)(h:f9 l=U (v,l')):lT v:=by
 obtain⟨⟨f,_⟩,h1,h⟩:=bf h;obtain⟨⟨n,_⟩,h2,h⟩:=bf h;obtain⟨⟨d,_⟩,h3,h⟩:=bf h;have q1:=ue _ _ _ h1;have q2:=iQ _ _ _ h2;have q3:=iQ _ _ _ h3;have z:i1 0:=⟨by omega,by omega⟩
 unfold m3 at h;split at h
 ·simp only[aF,bm]at h;obtain⟨rfl,_⟩:=h;exact⟨q1,q2,q3,z,z,by simp,⟨by simp,by simp⟩,by simp,by simp⟩
 ·obtain⟨⟨s,_⟩,h4,h⟩:=bf h;obtain⟨⟨lo,_⟩,h5,h⟩:=bf h;obtain⟨⟨k,_⟩,h6,h⟩:=bf h;unfold b5 at h;split at h
  ·cases h
  ·obtain⟨⟨code,_⟩,h7,h⟩:=bf h;obtain⟨⟨tr,_⟩,h8,h⟩:=bf h;obtain⟨⟨fr,_⟩,h9,h⟩:=bf h;simp only[aF,bm]at h;obtain⟨rfl,_⟩:=h;have hc:=Kr h7;obtain⟨t1,t2⟩:=mP zbN h8;obtain⟨r1,r2⟩:=mP zbO h9;exact⟨q1,q2,q3,ue _ _ _ h4,ue _ _ _ h5,by simp only at hc ⊢;omega,⟨by simp only;omega,t2⟩,by simp only;omega,r2⟩
def uf (l:List UInt8)(v:Cls)(l':List UInt8)(h:fh l=U (v,l')):gS v:=by
 obtain⟨⟨t,_⟩,_,h⟩:=bf h;unfold iN at h;split at h
 ·cases h
 obtain⟨⟨pool,_⟩,h1,h⟩:=bf h;obtain⟨⟨f,_⟩,h2,h⟩:=bf h;obtain⟨⟨n,_⟩,h3,h⟩:=bf h;obtain⟨⟨s,_⟩,h4,h⟩:=bf h;obtain⟨⟨fa,_⟩,h5,h⟩:=bf h;obtain⟨⟨fi,_⟩,h6,h⟩:=bf h;obtain⟨⟨me,_⟩,h7,h⟩:=bf h;simp only[aF,bm]at h;obtain⟨rfl,_⟩:=h;obtain⟨p1,p2⟩:=mP zbM h1;obtain⟨a1,a2⟩:=mP iQ h5;obtain⟨i1,i2⟩:=mP zbP h6;obtain⟨m1,m2⟩:=mP zbQ h7;exact⟨⟨by simp only;omega,by simp only;omega,by simp only;omega,by simp only;omega⟩,p2,ue _ _ _ h2,iQ _ _ _ h3,iQ _ _ _ h4,a2,i2,m2⟩
def iR (n:Int)(h:i2 n):tS n=tI n:=by
 obtain⟨h1,h2⟩:=h;have e1:Int.tdiv n 256=n / 256:=Int.tdiv_eq_ediv_of_nonneg h1;have e2:Int.tmod n 256=n % 256:=Int.tmod_eq_emod_of_nonneg h1;have e3:Int.fdiv n 256=n / 256:=Int.fdiv_eq_ediv_of_nonneg n (by omega);have w:∀m:Int,IntKind.wrap .u8 m=m % 256:=fun m=>by simp[IntKind.wrap,IntKind.bits,IntKind.signed]
 unfold tS tI;rw[e1,e2,e3,wI (by omega) (by omega)];congr 1;unfold w1;rw[w,w];congr 3;omega
def Dw (n:Int)(h:i1 n):cH n=dQ n:=by
 obtain⟨h1,h2⟩:=h;have:=Kj ⟨n.toNat,by omega⟩;have e:((n.toNat:Nat):Int)=n:=by omega
 rw[show(⟨n.toNat,by omega⟩:Fin 256).val=n.toNat from rfl,e]at this;unfold cH dQ;rw[this];have q:Int.tmod n 16=n % 16:=Int.tmod_eq_emod_of_nonneg h1;have q2:Int.tdiv (n % 16) 8=n % 16 / 8:=Int.tdiv_eq_ediv_of_nonneg (by omega);rw[wI (by rw[q,q2];omega) (by rw[q,q2];omega)];rfl
def pF {α β:Type}{f g:α->β}{l:List α}(h:∀ x∈l,f x=g x):l.map f=l.map g:=List.map_congr_left h
def zbR (c:Cst)(h:zc c):gA tS c=gA tI c:=by
 simp only[gA,iR _ h.2.2.1,iR _ h.2.2.2]
def Kt (l:List Knd)(h:zd l):kD tS l=kD tI l:=by
 simp only[kD]
 rw[pF (f:=iO tS) (g:=iO tI) fun x hx=>by simp only[iO,iR _ (h.2 x hx).2]]
def zbS (m:Mth)(h:lT m):dI tS cH m=dI tI dQ m:=by
 obtain⟨h1,h2,h3,h4,h5,h6,⟨h7,h8⟩,h9,h10⟩:=h;simp only[dI,iR _ h2,iR _ h3,Dw _ h1]
 rw[iR _ (show i2 (m.2.2.2.2.2.1.length:Int)from⟨by omega,by omega⟩)]
 rw[pF (f:=gC tS) (g:=gC tI) fun x hx=>by
  obtain⟨q1,q2,q3,q4⟩:=h8 x hx
  simp only[gC,iR _ q1,iR _ q2,iR _ q3,iR _ q4]]
 rw[pF (f:=fL tS) (g:=fL tI) fun x hx=>by
  obtain⟨q1,q2,q3⟩:=h10 x hx
  simp only[fL,iR _ q1,Kt _ q2,Kt _ q3]]
def mQ (c:Cls)(h:gS c):cJ tS cH c=cJ tI dQ c:=by
 obtain⟨_,h1,h2,h3,h4,h5,h6,h7⟩:=h;simp only[cJ,iR _ h3,iR _ h4]
 rw[pF (f:=gA tS) (g:=gA tI) fun x hx=>zbR x (h1 x hx),pF (f:=tS) (g:=tI) fun x hx=>iR x (h5 x hx),pF (f:=dI tS cH) (g:=dI tI dQ) fun x hx=>zbS x (h7 x hx)]
 rw[pF (f:=jE tS) (g:=jE tI) fun x hx=>by
  obtain⟨q1,q2,q3⟩:=h6 x hx
  simp only[jE,iR _ q2,iR _ q3]]
end
end Go.Proofs.YtmjlecabpbiigaaGreat
section
namespace Go.TM
open Go.AM
section
variable {α X Y R:Type}
def jF [DecidableEq α]{f:X->Option (X⊕(Y⊕R))}(mk:Nat->X)(fin:Y)(no:R)(a b:List α)(hl:a.length=b.length){x0:X}(hx:x0=mk 0){k:Y->Option R}
  (hend:f (mk a.length)=U (.inr (.inl fin)))
  (hstep:∀i (h:i<a.length) (h':i<b.length),f (mk i)=if a[i]=b[i]then U (.inl (mk (i+1)))else U (.inr (.inr no))) :
  bindE (aE f x0) k=if a=b then k fin else U no:=by
 have key:∀(m i:Nat),i+m=a.length->aE f (mk i)=U (if a.drop i=b.drop i then .inl fin else .inr no):=by
  intro m
  induction m with
  | zero=>
    intro i hi;have:i=a.length:=by omega
    subst this;rw[eV,hend,List.drop_eq_nil_of_le (bJ _),List.drop_eq_nil_of_le (by omega),if_pos rfl]
  | succ m ih=>
    intro i hi;have h:i<a.length:=by omega
    have h':i<b.length:=by omega
    rw[eV,hstep i h h',kv h,kv h'];by_cases hab:a[i]=b[i]
    ·rw[if_pos hab];simp only[hab,List.cons.injEq,true_and]
     exact ih (i+1) (by omega)
    ·rw[if_neg hab,if_neg (fun h=>hab (List.cons.inj h).1)]
 rw[hx,key a.length 0 (by omega),List.drop_zero,List.drop_zero];by_cases h:a=b
 ·simp only[h,if_true,aJ]
 ·simp only[h,if_false,aV]
def lh {p:Prop}[Decidable p]:(if p then U ae else U ag:Option Bool)=U (aa p):=by by_cases h:p<;>simp[h]
end
end Go.TM
namespace Go.Proofs.YtmjlecabpbiigaaGreat
open Go Go.AM Go.TM
def ze {α:Type}[DecidableEq α](x y:Int×α×Int×Int):(aa (x.1=y.1)&&(aa (x.2.1=y.2.1)&&(aa (x.2.2.1=y.2.2.1)&&(aa (x.2.2.2=y.2.2.2)&&ae))))=aa (x=y):=by
 obtain⟨a,b,c,d⟩:=x;obtain⟨a',b',c',d'⟩:=y;simp only[bm,ck,Bool.decide_and]
def Ku (x y:Int×Int×Int):(aa (x.1=y.1)&&(aa (x.2.1=y.2.1)&&(aa (x.2.2=y.2.2)&&ae)))=aa (x=y):=by
 obtain⟨a,b,c⟩:=x;obtain⟨a',b',c'⟩:=y;simp only[bm,ck,Bool.decide_and]
def zg (x y:Int×Int):(aa (x.1=y.1)&&(aa (x.2=y.2)&&ae))=aa (x=y):=by
 obtain⟨a,b⟩:=x;obtain⟨a',b'⟩:=y;simp only[bm,ck,Bool.decide_and]
def zbT (a b:List Cst)(ha:a.length<=1048576):xx (a,b)=U (aa (a=b)):=by
 simp only[xx,bW,aG]
 by_cases hl:(a.length:Int)=b.length
 ·have hl':a.length=b.length:=by omega
  rw[if_pos hl];refine(jF (fun i=>(a,b,(i:Int))) () ag a b hl' rfl ?_ ?_).trans lh
  ·simp only[bH,bc,aM,if_false]
  ·intro i h h';have hi:(i:Int)<a.length:=by omega
   have hi2:(i:Int)<b.length:=by omega
   have h0:(0:Int)<=i:=by omega
   simp (discharger:=omega) only[hi,hl.symm,h0,ay,aN,if_true,aD,aS,bq,ze,aG,wI]
   rfl
 ·rw[if_neg hl];have:a≠b:=fun h=>hl (by rw[h])
  simp[this]
def Kv (a b:List Knd)(ha:a.length<=1048576):tv (a,b)=U (aa (a=b)):=by
 simp only[tv,bW,aG]
 by_cases hl:(a.length:Int)=b.length
 ·have hl':a.length=b.length:=by omega
  rw[if_pos hl];refine(jF (fun i=>(a,b,(i:Int))) () ag a b hl' rfl ?_ ?_).trans lh
  ·simp only[bH,bc,aM,if_false]
  ·intro i h h';have hi:(i:Int)<a.length:=by omega
   have hi2:(i:Int)<b.length:=by omega
   have h0:(0:Int)<=i:=by omega
   simp (discharger:=omega) only[hi,hl.symm,h0,ay,aN,if_true,aD,aS,bq,zg,aG,wI]
   rfl
 ·rw[if_neg hl];have:a≠b:=fun h=>hl (by rw[h])
  simp[this]
def zbU (a b:List Cst)(ha:a.length<=1048576):yi (a,b)=U (aa (a=b)):=by
 simp only[yi,bW,aG]
 by_cases hl:(a.length:Int)=b.length
 ·have hl':a.length=b.length:=by omega
  rw[if_pos hl];refine(jF (fun i=>(a,b,(a.length:Int),(i:Int))) () ag a b hl' rfl ?_ ?_).trans lh
  ·simp only[bH,bc,aM,if_false]
  ·intro i h h';have hi:(i:Int)<a.length:=by omega
   have hi2:(i:Int)<b.length:=by omega
   have h0:(0:Int)<=i:=by omega
   simp (discharger:=omega) only[hi,hl.symm,h0,ay,aN,if_true,aD,aS,bq,ze,aG,wI]
   rfl
 ·rw[if_neg hl];have:a≠b:=fun h=>hl (by rw[h])
  simp[this]
def zbV (a b:List Int)(ha:a.length<=1048576):yj (a,b)=U (aa (a=b)):=by
 simp only[yj,bW,aG]
 by_cases hl:(a.length:Int)=b.length
 ·have hl':a.length=b.length:=by omega
  rw[if_pos hl];refine(jF (fun i=>(a,b,(a.length:Int),(i:Int))) () ag a b hl' rfl ?_ ?_).trans lh
  ·simp only[bH,bc,aM,if_false]
  ·intro i h h';have hi:(i:Int)<a.length:=by omega
   have hi2:(i:Int)<b.length:=by omega
   have h0:(0:Int)<=i:=by omega
   simp (discharger:=omega) only[hi,hl.symm,h0,ay,aN,if_true,aD,aS,bq,aG,wI]
   rfl
 ·rw[if_neg hl];have:a≠b:=fun h=>hl (by rw[h])
  simp[this]
def zbW (a b:List Fld)(ha:a.length<=1048576):yk (a,b)=U (aa (a=b)):=by
 simp only[yk,bW,aG]
 by_cases hl:(a.length:Int)=b.length
 ·have hl':a.length=b.length:=by omega
  rw[if_pos hl];refine(jF (fun i=>(a,b,(a.length:Int),(i:Int))) () ag a b hl' rfl ?_ ?_).trans lh
  ·simp only[bH,bc,aM,if_false]
  ·intro i h h';have hi:(i:Int)<a.length:=by omega
   have hi2:(i:Int)<b.length:=by omega
   have h0:(0:Int)<=i:=by omega
   simp (discharger:=omega) only[hi,hl.symm,h0,ay,aN,if_true,aD,aS,bq,Ku,aG,wI]
   rfl
 ·rw[if_neg hl];have:a≠b:=fun h=>hl (by rw[h])
  simp[this]
def zbX (a b:List Trp)(ha:a.length<=1048576):yl (a,b)=U (aa (a=b)):=by
 simp only[yl,bW,aG]
 by_cases hl:(a.length:Int)=b.length
 ·have hl':a.length=b.length:=by omega
  rw[if_pos hl];refine(jF (fun i=>(a,b,(a.length:Int),(i:Int))) () ag a b hl' rfl ?_ ?_).trans lh
  ·simp only[bH,bc,aM,if_false]
  ·intro i h h';have hi:(i:Int)<a.length:=by omega
   have hi2:(i:Int)<b.length:=by omega
   have h0:(0:Int)<=i:=by omega
   simp (discharger:=omega) only[hi,hl.symm,h0,ay,aN,if_true,aD,aS,bq,ze,aG,wI]
   rfl
 ·rw[if_neg hl];have:a≠b:=fun h=>hl (by rw[h])
  simp[this]
def Kw (a b:List Knd)(ha:a.length<=1048576):tP (a,b)=U (aa (a=b)):=by
 simp only[tP,bW,aG]
 by_cases hl:(a.length:Int)=b.length
 ·have hl':a.length=b.length:=by omega
  rw[if_pos hl];refine(jF (fun i=>(a,b,(a.length:Int),(i:Int))) () ag a b hl' rfl ?_ ?_).trans lh
  ·simp only[bH,bc,aM,if_false]
  ·intro i h h';have hi:(i:Int)<a.length:=by omega
   have hi2:(i:Int)<b.length:=by omega
   have h0:(0:Int)<=i:=by omega
   simp (discharger:=omega) only[hi,hl.symm,h0,ay,aN,if_true,aD,aS,bq,zg,aG,wI]
   rfl
 ·rw[if_neg hl];have:a≠b:=fun h=>hl (by rw[h])
  simp[this]
def zbY (x y:Frm)(h:mK x):ym (x,y)=U (aa (x=y)):=by
 obtain⟨a0,a1,a2⟩:=x;obtain⟨b0,b1,b2⟩:=y;simp only[ym,Kw a1 b1 h.1,Kw a2 b2 h.2,ax,aG,bm]
 by_cases h0:a0=b0<;>by_cases h1:a1=b1<;>by_cases h2:a2=b2<;>simp[h0,h1,h2]
def zbZ (a b:List Frm)(ha:a.length<=1048576)(hb:∀ x∈a,mK x):yo (a,b)=U (aa (a=b)):=by
 simp only[yo,bW,aG]
 by_cases hl:(a.length:Int)=b.length
 ·have hl':a.length=b.length:=by omega
  rw[if_pos hl];refine(jF (fun i=>(b,a,(a.length:Int),(i:Int))) () ag a b hl' rfl ?_ ?_).trans lh
  ·simp only[bH,bc,aM,if_false]
  ·intro i h h';have hi:(i:Int)<a.length:=by omega
   have hi2:(i:Int)<b.length:=by omega
   have h0:(0:Int)<=i:=by omega
   have hq:=zbY a[i] b[i] (hb _ (List.getElem_mem h));simp (discharger:=omega) only[hi,hl.symm,h0,ay,aN,if_true,aD,aS,bq,hq,ax,aG,wI]
   rfl
 ·rw[if_neg hl];have:a≠b:=fun h=>hl (by rw[h])
  simp[this]
def zb0 (x y:Mth)(h:ld x):yp (x,y)=U (aa (x=y)):=by
 obtain⟨a0,a1,a2,a3,a4,a5,a6,a7⟩:=x;obtain⟨b0,b1,b2,b3,b4,b5,b6,b7⟩:=y;obtain⟨h1,h2,h3,h4⟩:=h;simp only at h1 h2 h3 h4;simp only[yp,zbX a6 b6 h2,zbZ a7 b7 h3 h4,ax,aG,bm]
 by_cases h0:a0=b0
 ·by_cases h1:a1=b1
  ·by_cases h2:a2=b2
   ·by_cases h3:a3=b3
    ·by_cases h4:a4=b4
     ·by_cases h5:a5=b5
      ·by_cases h6:a6=b6<;>by_cases h7:a7=b7<;>simp[*]
      ·simp[*]
     ·simp[*]
    ·simp[*]
   ·simp[*]
  ·simp[*]
 ·simp[*]
def zb1 (a b:List Mth)(ha:a.length<=1048576)(hb:∀ x∈a,ld x):yq (a,b)=U (aa (a=b)):=by
 simp only[yq,bW,aG]
 by_cases hl:(a.length:Int)=b.length
 ·have hl':a.length=b.length:=by omega
  rw[if_pos hl];refine(jF (fun i=>(b,a,(a.length:Int),(i:Int))) () ag a b hl' rfl ?_ ?_).trans lh
  ·simp only[bH,bc,aM,if_false]
  ·intro i h h';have hi:(i:Int)<a.length:=by omega
   have hi2:(i:Int)<b.length:=by omega
   have h0:(0:Int)<=i:=by omega
   have hq:=zb0 a[i] b[i] (hb _ (List.getElem_mem h));simp (discharger:=omega) only[hi,hl.symm,h0,ay,aN,if_true,aD,aS,bq,hq,ax,aG,wI]
   rfl
 ·rw[if_neg hl];have:a≠b:=fun h=>hl (by rw[h])
  simp[this]
def q68 (x y:Cls)(h:je x):yr (x,y)=U (aa (x=y)):=by
 obtain⟨a0,a1,a2,a3,a4,a5,a6⟩:=x;obtain⟨b0,b1,b2,b3,b4,b5,b6⟩:=y;obtain⟨⟨h1,_⟩,h2,h3,h4,h5⟩:=h;simp only at h1 h2 h3 h4 h5;simp only[yr,zbU a0 b0 h1,zbV a4 b4 h2,zbW a5 b5 h3,zb1 a6 b6 h4 h5,ax,aG,aL,bm]
 by_cases h0:a0=b0
 ·by_cases h1:a1=b1
  ·by_cases h2:a2=b2
   ·by_cases h3:a3=b3
    ·by_cases h4:a4=b4
     ·by_cases h5:a5=b5<;>by_cases h6:a6=b6<;>simp[*]
     ·simp[*]
    ·simp[*]
   ·simp[*]
  ·simp[*]
 ·simp[*]
end Go.Proofs.YtmjlecabpbiigaaGreat
end
section
namespace Go.Proofs.YtmjlecabpbiigaaGreat
open Go Go.AM Go.TM
def Kx (a b:List Frm)(ha:a.length<=1048576)(hb:∀ x∈a,mK x):xy (a,b)=U (aa (a=b)):=by
 simp only[xy,bW,aG]
 by_cases hl:(a.length:Int)=b.length
 ·have hl':a.length=b.length:=by omega
  rw[if_pos hl];refine(jF (fun i=>(a,b,(i:Int))) () ag a b hl' rfl ?_ ?_).trans lh
  ·simp only[bH,bc,aM,if_false]
  ·intro i h h';have hi:(i:Int)<a.length:=by omega
   have h0:(0:Int)<=i:=by omega
   have b1:=hb _ (List.getElem_mem h);have hq1:=Kv a[i].2.1 b[i].2.1 b1.1;have hq2:=Kv a[i].2.2 b[i].2.2 b1.2;simp (discharger:=omega) only[hi,hl.symm,h0,ay,aN,if_true,aD,aS,bq,hq1,hq2,ax,bW,aG,fC,wI]
   generalize a[i]=x;generalize b[i]=y;obtain⟨x0,x1,x2⟩:=x;obtain⟨y0,y1,y2⟩:=y;by_cases e0:x0=y0<;>by_cases e1:x1=y1<;>by_cases e2:x2=y2<;>simp (discharger:=omega) only[e0,e1,e2,bm,if_true,if_false,and_true,and_false,aJ,aV,true_and,false_and,wI]<;>rfl
 ·rw[if_neg hl];have:a≠b:=fun h=>hl (by rw[h])
  simp[this]
def Dx {p q:Prop}[Decidable p][Decidable q]:(if p then U (aa q)else U ag:Option Bool)=U (aa (p/\q)):=by by_cases h:p<;>simp[h]
def zb2 (x y:Mth)(h:ld x):xz (x,y)=U (aa (x=y)):=by
 obtain⟨a0,a1,a2,a3,a4,a5,a6,a7⟩:=x;obtain⟨b0,b1,b2,b3,b4,b5,b6,b7⟩:=y;obtain⟨h1,h2,h3,h4⟩:=h;simp only at h1 h2 h3 h4;simp only[xz,Kx a7 b7 h3 h4,bW,aG,fC,aV,aJ,bm]
 by_cases e0:a0=b0
 ·by_cases e1:a1=b1
  ·by_cases e2:a2=b2
   ·by_cases e3:a3=b3
    ·by_cases e4:a4=b4
     ·by_cases e5:a5=b5
      ·by_cases hl:(a6.length:Int)=b6.length
       ·have hl':a6.length=b6.length:=by omega
        simp only[e0,e1,e2,e3,e4,e5,hl,if_true,true_and]
        refine(jF (fun i=>((i:Int),(b0,b1,b2,b3,b4,b5,a6,a7),b0,b1,b2,b3,b4,b5,b6,b7)) ((b0,b1,b2,b3,b4,b5,a6,a7),b0,b1,b2,b3,b4,b5,b6,b7) ag a6 b6 hl' rfl ?_ ?_).trans ?_
        ·simp only[bH,if_false]
        ·intro i h h';have hi:(i:Int)<a6.length:=by omega
         have h0:(0:Int)<=i:=by omega
         simp (discharger:=omega) only[hi,hl.symm,h0,ay,aN,if_true,aD,aS,bq,ze,aG,wI]
         rfl
        ·simp only[Kx a7 b7 h3 h4,ax]
         exact Dx
       ·have:a6≠b6:=fun h=>hl (by rw[h])
        simp[*]
      ·simp[*]
     ·simp[*]
    ·simp[*]
   ·simp[*]
  ·simp[*]
 ·simp[*]
def q70 (x y:Cls)(h:je x):xA (x,y)=U (aa (x=y)):=by
 obtain⟨a0,a1,a2,a3,a4,a5,a6⟩:=x;obtain⟨b0,b1,b2,b3,b4,b5,b6⟩:=y;obtain⟨⟨h1,_⟩,h2,h3,h4,h5⟩:=h;simp only at h1 h2 h3 h4 h5;simp only[xA,zbT a0 b0 h1,ax,bW,aG,fC,aV,aJ,bm]
 by_cases e0:a0=b0
 ·by_cases e1:a1=b1
  ·by_cases e2:a2=b2
   ·by_cases e3:a3=b3
    ·by_cases l4:(a4.length:Int)=b4.length
     ·by_cases l5:(a5.length:Int)=b5.length
      ·by_cases l6:(a6.length:Int)=b6.length
       ·have l4':a4.length=b4.length:=by omega
        have l5':a5.length=b5.length:=by omega
        have l6':a6.length=b6.length:=by omega
        simp only[e0,e1,e2,e3,l4,l5,l6,if_true,true_and]
        refine(jF (fun i=>((i:Int),(b0,b1,b2,b3,a4,a5,a6),b0,b1,b2,b3,b4,b5,b6)) ((b0,b1,b2,b3,a4,a5,a6),b0,b1,b2,b3,b4,b5,b6) ag a4 b4 l4' rfl ?_ ?_).trans ?_
        ·simp only[bH,if_false]
        ·intro i h h';have hi:(i:Int)<a4.length:=by omega
         have h0:(0:Int)<=i:=by omega
         simp (discharger:=omega) only[hi,l4.symm,h0,ay,aN,if_true,aD,aS,bq,aG,wI]
         rfl
        refine Eq.trans ?_ Dx;by_cases e4:a4=b4
        ·rw[if_pos e4,if_pos e4];simp only
         refine(jF (fun i=>((i:Int),(b0,b1,b2,b3,a4,a5,a6),b0,b1,b2,b3,b4,b5,b6)) ((b0,b1,b2,b3,a4,a5,a6),b0,b1,b2,b3,b4,b5,b6) ag a5 b5 l5' rfl ?_ ?_).trans ?_
         ·simp only[bH,if_false]
         ·intro i h h';have hi:(i:Int)<a5.length:=by omega
          have h0:(0:Int)<=i:=by omega
          simp (discharger:=omega) only[hi,l5.symm,h0,ay,aN,if_true,aD,aS,bq,Ku,aG,wI]
          rfl
         refine Eq.trans ?_ Dx;by_cases e5:a5=b5
         ·rw[if_pos e5,if_pos e5];simp only
          refine(jF (fun i=>((i:Int),(b0,b1,b2,b3,a4,a5,a6),b0,b1,b2,b3,b4,b5,b6)) () ag a6 b6 l6' rfl ?_ ?_).trans lh
          ·simp only[bH,if_false]
          ·intro i h h';have hi:(i:Int)<a6.length:=by omega
           have h0:(0:Int)<=i:=by omega
           have hq:=zb2 a6[i] b6[i] (h5 _ (List.getElem_mem h));simp (discharger:=omega) only[hi,l6.symm,h0,ay,aN,if_true,aD,aS,bq,hq,ax,aG,wI]
           rfl
         ·rw[if_neg e5,if_neg e5]
        ·rw[if_neg e4,if_neg e4]
       ·have:a6≠b6:=fun h=>l6 (by rw[h])
        simp[*]
      ·have:a5≠b5:=fun h=>l5 (by rw[h])
       simp[*]
     ·have:a4≠b4:=fun h=>l4 (by rw[h])
      simp[*]
    ·simp[*]
   ·simp[*]
  ·simp[*]
 ·simp[*]
end Go.Proofs.YtmjlecabpbiigaaGreat
namespace Go.TM
open Go.AM
section
variable {α X Y R:Type}
def Dy {f:X->Option (X⊕(Y⊕R))}(mk:Nat->X)(fin:Y)(no:R)(l:List α)(p:α->Bool){x0:X}(hx:x0=mk 0){k:Y->Option R}
  (hend:f (mk l.length)=U (.inr (.inl fin)))
  (hstep:∀i (h:i<l.length),f (mk i)=if p l[i]=ae then U (.inl (mk (i+1)))else U (.inr (.inr no))) :
  bindE (aE f x0) k=if l.all p=ae then k fin else U no:=by
 have key:∀(m i:Nat),i+m=l.length->aE f (mk i)=U (if(l.drop i).all p=ae then .inl fin else .inr no):=by
  intro m
  induction m with
  | zero=>
    intro i hi;have:i=l.length:=by omega
    subst this;rw[eV,hend,List.drop_eq_nil_of_le (bJ _)];rfl
  | succ m ih=>
    intro i hi;have h:i<l.length:=by omega
    rw[eV,hstep i h,kv h,List.all_cons];cases hp:p l[i]
    ·simp
    ·simp only[if_true,Bool.true_and]
     exact ih (i+1) (by omega)
 rw[hx,key l.length 0 (by omega),List.drop_zero];by_cases h:l.all p=ae
 ·simp only[h,if_true,aJ]
 ·simp only[h,if_false,aV,cV]
end
end Go.TM
namespace Go.Proofs.YtmjlecabpbiigaaGreat
open Go Go.AM Go.TM
def pG (f:Frm):Bool:=aa (f.2.1.length<=8)&&aa (f.2.2.length<=8)
def n5 (m:Mth):Bool:=aa (m.2.2.2.2.2.1.length<=120)&&(aa (m.2.2.2.2.2.2.1.length<=3)&&(aa (m.2.2.2.2.2.2.2.length<=8)&&m.2.2.2.2.2.2.2.all pG))
def sm (c:Cls):Bool:=aa (iP c)&&(c.1.all (fun x=>aa (x.2.1.length<=255))&&c.2.2.2.2.2.2.all n5)
def q66 (c:Cls)(h:je c):yg c=U (sm c):=by
 obtain⟨c0,c1,c2,c3,c4,c5,c6⟩:=c;obtain⟨⟨a1,a2⟩,a3,a4,a5,a6⟩:=h;simp only at a1 a2 a3 a4 a5 a6;simp only[yg,aG,fC,aV,aJ]
 by_cases f1:(60:Int)<c0.length
 ·have:¬iP (c0,c1,c2,c3,c4,c5,c6):=fun h=>by have:=h.1;simp only at this;omega
  simp[f1,sm,this]
 by_cases f2:(3:Int)<c4.length
 ·have:¬iP (c0,c1,c2,c3,c4,c5,c6):=fun h=>by have:=h.2.1;simp only at this;omega
  simp[f1,f2,sm,this]
 by_cases f3:(5:Int)<c5.length
 ·have:¬iP (c0,c1,c2,c3,c4,c5,c6):=fun h=>by have:=h.2.2.1;simp only at this;omega
  simp[f1,f2,f3,sm,this]
 by_cases f4:(6:Int)<c6.length
 ·have:¬iP (c0,c1,c2,c3,c4,c5,c6):=fun h=>by have:=h.2.2.2;simp only at this;omega
  simp[f1,f2,f3,f4,sm,this]
 have hf:iP (c0,c1,c2,c3,c4,c5,c6):=⟨by simp only;omega,by simp only;omega,by simp only;omega,by simp only;omega⟩
 simp only[f1,f2,f3,f4,if_false,sm,hf,ay,Bool.true_and]
 refine(Dy (fun i=>(c0,(c0.length:Int),(i:Int),c0,c1,c2,c3,c4,c5,c6)) (c0,c1,c2,c3,c4,c5,c6) ag c0 (fun x=>aa (x.2.1.length<=255)) rfl ?_ ?_).trans ?_
 ·simp only[bH,if_false]
 ·intro i h;have hi:(i:Int)<c0.length:=by omega
  have h0:(0:Int)<=i:=by omega
  simp (discharger:=omega) only[hi,h0,ay,if_true,aD,aS,bq,aG,wI,aL]
  by_cases hx:(255:Int)<c0[i].2.1.length
  ·rw[if_pos hx,if_neg (by omega)]
  ·rw[if_neg hx,if_pos (by omega)];rfl
 by_cases hp:(c0.all fun x=>aa (x.2.1.length<=255))=ae
 ·rw[if_pos hp,hp];simp only[Bool.true_and]
  refine(Dy (fun i=>(c6,(c6.length:Int),(i:Int))) () ag c6 n5 rfl ?_ ?_).trans ?_
  ·simp only[bH,if_false]
  ·intro i h;have hi:(i:Int)<c6.length:=by omega
   have h0:(0:Int)<=i:=by omega
   have hb:=a6 _ (List.getElem_mem h);simp (discharger:=omega) only[hi,h0,ay,if_true,aD,aS,bq,aG,wI,fC,aV,aJ]
   generalize c6[i]=m at hb;obtain⟨m0,m1,m2,m3,m4,m5,m6,m7⟩:=m;obtain⟨b1,b2,b3,b4⟩:=hb;simp only at b1 b2 b3 b4 ⊢;by_cases g1:(120:Int)<m5.length
   ·have:¬m5.length<=120:=by omega
    simp[g1,n5,this]
   by_cases g2:(3:Int)<m6.length
   ·have:¬m6.length<=3:=by omega
    simp[g1,g2,n5,this]
   by_cases g3:(8:Int)<m7.length
   ·have:¬m7.length<=8:=by omega
    simp[g1,g2,g3,n5,this]
   simp only[g1,g2,g3,if_false,n5,show m5.length<=120 by omega,show m6.length<=3 by omega,show m7.length<=8 by omega,ay,Bool.true_and]
   refine(congrArg (bindE · _) (Dy (fun j=>(c6,(c6.length:Int),(i:Int),m7,(m7.length:Int),(j:Int))) (c6,(c6.length:Int),(i:Int)) (.inr (.inr (.inr ag))) m7 pG rfl ?_ ?_)).trans ?_
   ·simp only[bH,if_false]
   ·intro j h;have hj:(j:Int)<m7.length:=by omega
    have h0:(0:Int)<=j:=by omega
    simp (discharger:=omega) only[hj,h0,ay,if_true,aD,aS,bq,fC,aV,aJ,wI]
    generalize m7[j]=fr;by_cases u1:(8:Int)<fr.2.1.length
    ·have:¬fr.2.1.length<=8:=by omega
     simp[u1,pG,this]
    by_cases u2:(8:Int)<fr.2.2.length
    ·have:¬fr.2.2.length<=8:=by omega
     simp[u1,u2,pG,this]
    simp only[u1,u2,if_false,pG,show fr.2.1.length<=8 by omega,show fr.2.2.length<=8 by omega,ay,Bool.true_and,if_true]
    rfl
   ·by_cases hq:m7.all pG=ae
    ·simp (discharger:=omega) only[hq,if_true,aJ,wI];rfl
    ·simp only[hq,if_false,aV,cV]
  ·by_cases hq:c6.all n5=ae<;>simp[hq]
 ·rw[if_neg hp];simp only[Bool.not_eq_true]at hp;rw[hp];rfl
def zb3 {c:Cls}(h:sm c=ae):iP c:=by
 simp only[sm,aK,aL]at h;exact h.1
def zb4 {c:Cls}(h:gS c):sm c=ae:=by
 obtain⟨h0,h1,_,_,_,_,_,h7⟩:=h;simp only[sm,aK,aL,List.all_eq_true]
 refine⟨h0,fun x hx=>(h1 x hx).2.1,fun m hm=>?_⟩;obtain⟨_,_,_,_,_,g1,⟨g2,_⟩,g3,g4⟩:=h7 m hm;simp only[n5,pG,aK,aL,List.all_eq_true]
 exact⟨g1,g2,g3,fun f hf=>⟨(g4 f hf).2.1.1,(g4 f hf).2.2.1⟩⟩
noncomputable def put (c:Cls):List UInt8:=by
 classical
 exact if gS c/\(cJ tI dQ c).length<=900/\fh (cJ tI dQ c)=U (c,[])then cJ tI dQ c else []
def rp {c:Cls}(h:gS c/\(cJ tI dQ c).length<=900/\fh (cJ tI dQ c)=U (c,[])):put c=cJ tI dQ c:=by
 unfold put;rw[if_pos h]
def kE {c:Cls}(h:¬ (gS c/\(cJ tI dQ c).length<=900/\fh (cJ tI dQ c)=U (c,[]))):put c=[]:=by
 unfold put;rw[if_neg h]
def Ky (c:Cls)(h:je c):px c=U (put c):=by
 obtain⟨c0,c1,c2,c3,c4,c5,c6⟩:=c;simp only[px,q66 _ h,ax,bW]
 cases hs:sm (c0,c1,c2,c3,c4,c5,c6)with
 | false=>
   rw[aM,kE];intro hh;rw[zb4 hh.1]at hs;cases hs
 | true=>
   rw[aN,p67 _ h (zb3 hs)];simp only[ax]
   by_cases hl:(cJ tI dQ (c0,c1,c2,c3,c4,c5,c6)).length<=900
   ·have hg:=Kk _ hl;unfold ga at hg;rw[hg];cases hc:fh (cJ tI dQ (c0,c1,c2,c3,c4,c5,c6))with
    | none=>
      simp only[ax,aM]
      rw[kE];rintro⟨_,_,h3⟩;rw[hc]at h3;cases h3
    | some p=>
      obtain⟨d,r⟩:=p;cases r with
      | cons x r=>
        simp only[ax,aM]
        rw[kE];rintro⟨_,_,h3⟩;rw[hc]at h3;cases h3
      | nil=>
        obtain⟨d0,d1,d2,d3,d4,d5,d6⟩:=d;simp only[ax,aN]
        rw[q68 _ _ h,ax,aG];by_cases he:(c0,c1,c2,c3,c4,c5,c6)=(d0,d1,d2,d3,d4,d5,d6)
        ·rw[if_pos he,rp];refine⟨?_,hl,?_⟩
         ·rw[he];exact uf _ _ _ hc
         ·rw[hc,he]
        ·rw[if_neg he,kE];rintro⟨_,_,h3⟩;rw[hc]at h3;simp only[aF,bm]at h3;exact he (by simp only[bm];obtain⟨⟨k0,k1,k2,k3,k4,k5,k6⟩,_⟩:=h3;exact⟨k0.symm,k1.symm,k2.symm,k3.symm,k4.symm,k5.symm,k6.symm⟩)
   ·have hn:(900:Int)<((cJ tI dQ (c0,c1,c2,c3,c4,c5,c6)).length:Int):=by omega
    simp only[F8,hn,ay,aN,ax,aM]
    rw[kE];rintro⟨_,h2,_⟩;exact hl h2
def zb5 (c:Cls):xm c=U (aa (iP c)):=by
 obtain⟨c0,c1,c2,c3,c4,c5,c6⟩:=c;have hf:iP (c0,c1,c2,c3,c4,c5,c6)↔(c0.length<=60/\c4.length<=3/\c5.length<=5/\c6.length<=6):=Iff.rfl;simp only[xm,aG]
 repeat' split
 all_goals
  rw[aF,Bool.eq_iff_iff,decide_eq_true_iff (p:=iP _),hf]
  first
   |(rw[decide_eq_true_iff];omega)
   |(constructor<;>intro hh<;>first|omega|cases hh)
end Go.Proofs.YtmjlecabpbiigaaGreat
end
namespace Go.Proofs.YtmjlecabpbiigaaGreat
section
open Go Go.AM Go.TM
def Dz {c:Cls}(h:gS c):iP c:=h.1
def n6 {c:Cls}(h:gS c):je c:=by
 obtain⟨⟨f1,f2,f3,f4⟩,h1,_,_,_,_,_,h7⟩:=h;refine⟨⟨by omega,fun x hx=>?_⟩,by omega,by omega,by omega,fun m hm=>?_⟩
 ·have:=(h1 x hx).2.1;simp only[nY];omega
 ·obtain⟨_,_,_,_,_,g1,⟨g2,_⟩,g3,g4⟩:=h7 m hm;refine⟨by omega,by omega,by omega,fun f hf=>?_⟩;obtain⟨_,⟨k1,_⟩,⟨k2,_⟩⟩:=g4 f hf;simp only[mK,kx];omega
def Kz (l:List UInt8)(hl:l.length<=900):∃b c,kt l=U (b,c)/\(b=ae->fh l=U (c,[])/\cJ tS cH c=l)/\(∀c',fh l=U (c',[])->cJ tS cH c'=l->b=ae):=by
 have hn:¬((900:Int)<(l.length:Int)):=by omega
 simp only[kt,hn,bc,aM]
 obtain⟨v,⟨s1,s2,s3⟩,e1,⟨r1,r2,r3,_,r5,r6⟩,e3⟩:=zbJ (s0:=l) (l,0,ag) (U l) ⟨rfl,by simp,by simp,hl,(fun h=>by cases h),fun l' h=>by
  simp only[aF]at h;exact⟨rfl,by rw[<-h];rfl⟩⟩
 rw[e1];obtain⟨y,y1,y2,y3,y4,y5,x⟩:=v;simp only[ax]
 simp only at r1 r2 r3 r5 r6;subst r1;cases hb:fh s1 with
 | none=>
   have:s3=ae:=r5 (by rw[bh,hb];rfl);subst this;exact⟨_,_,rfl,(fun h=>by cases h),fun c' h=>by cases h⟩
 | some p=>
   obtain⟨c,r⟩:=p;obtain⟨h3,h4⟩:=r6 r (by rw[bh,hb];rfl);have hv:=e3 c r (by rw[bh,hb]);subst h3;simp only[aM,bW,aG]
   by_cases hs:s2=(s1.length:Int)
   ·have hr:r=[]:=by rw[h4];exact List.drop_eq_nil_of_le (by omega)
    subst hr;rw[if_pos hs];have hf:gS (y,y1,y2,y3,y4,y5,x):=by rw[hv];exact uf _ _ _ hb
    rw[zb _ (n6 hf) (Dz hf)];simp only[ax]
    by_cases hw:cJ tS cH (y,y1,y2,y3,y4,y5,x)=s1
    ·rw[if_pos hw];exact⟨_,_,rfl,(fun _=>⟨by rw[hv],hw⟩),fun _ _ _=>rfl⟩
    ·rw[if_neg hw];refine⟨_,_,rfl,(fun h=>by cases h),fun c' h1 h2=>?_⟩;simp only[aF,bm,and_true]at h1;rw[hv,h1]at hw;exact absurd h2 hw
   ·rw[if_neg hs];refine⟨_,_,rfl,(fun h=>by cases h),fun c' h1 h2=>?_⟩;simp only[aF,bm]at h1;have hr:r=[]:=h1.2;rw[hr]at h4;have:=congrArg au h4;simp only[cX,dx]at this;omega
def KA (c:Cls)(h:je c):tw c=U (put c):=by
 obtain⟨c0,iN,lg,jf,mM,f_,gc6⟩:=c;simp only[tw,zb5,ax,bW,aG]
 by_cases hf:iP (c0,iN,lg,jf,mM,f_,gc6)
 ·rw[if_pos hf,zb _ h hf];simp only[ax]
  by_cases hl:(cJ tS cH (c0,iN,lg,jf,mM,f_,gc6)).length<=900
  ·obtain⟨b,d,e,h1,h2⟩:=Kz _ hl;rw[e];obtain⟨d0,d1,d2,d3,d4,d5,d6⟩:=d;simp only[ax]
   cases b with
   | false=>
     rw[aM,kE];rintro⟨q1,q2,q3⟩;rw[<-mQ _ q1]at q3;cases h2 _ q3 rfl
   | true=>
     obtain⟨g1,g2⟩:=h1 rfl;have hd:=uf _ _ _ g1;rw[aN,q70 _ _ (n6 hd),ax,aG];by_cases he:(d0,d1,d2,d3,d4,d5,d6)=(c0,iN,lg,jf,mM,f_,gc6)
     ·rw[if_pos he];rw[he]at hd g1;have:=mQ _ hd;rw[rp,this];rw[this]at g1 hl;exact⟨hd,hl,g1⟩
     ·rw[if_neg he,kE];rintro⟨q1,q2,q3⟩;rw[<-mQ _ q1]at q3;rw[q3]at g1;simp only[aF,bm]at g1 he;obtain⟨⟨k0,k1,k2,k3,k4,k5,k6⟩,_⟩:=g1;exact he ⟨k0.symm,k1.symm,k2.symm,k3.symm,k4.symm,k5.symm,k6.symm⟩
  ·have hn:(900:Int)<((cJ tS cH (c0,iN,lg,jf,mM,f_,gc6)).length:Int):=by omega
   simp only[kt,hn,ay,aN,ax,aM]
   rw[kE];rintro⟨q1,q2,q3⟩;rw[<-mQ _ q1]at q2;exact hl q2
 ·rw[if_neg hf,kE];exact fun hh=>hf hh.1.1
end
end Go.Proofs.YtmjlecabpbiigaaGreat
namespace Go.Stow
section
def cut (c:UInt8):List UInt8->Option (List UInt8×List UInt8)
 |[]=>aj
 |x::l=>if x=c then U ([],l)else(cut c l).map fun p=>(x::p.1,p.2)
def ug {c:UInt8}:∀{l a b:List UInt8},cut c l=U (a,b)->l=a++c::b/\c ∉ a
 |[],a,b,h=>by cases h
 | x::l,a,b,h=>by
   unfold cut at h;by_cases hx:x=c
   ·rw[if_pos hx]at h;simp only[aF,bm]at h;obtain⟨rfl,rfl⟩:=h;exact⟨by rw[hx];rfl,by simp⟩
   ·rw[if_neg hx]at h;cases hc:cut c l with
    |none=>rw[hc]at h;cases h
    | some p=>
      obtain⟨a',b'⟩:=p;rw[hc]at h;simp only[Option.map_some,aF,bm]at h;obtain⟨rfl,rfl⟩:=h;obtain⟨h1,h2⟩:=ug hc;exact⟨by rw[h1];rfl,by simp only[List.mem_cons,not_or];exact⟨fun h=>hx h.symm,h2⟩⟩
def zh {c:UInt8}:∀{l:List UInt8},cut c l=aj↔c ∉ l
 |[]=>by simp[cut]
 | x::l=>by
   unfold cut;by_cases hx:x=c
   ·rw[if_pos hx];simp[hx]
   ·rw[if_neg hx];simp only[Option.map_eq_none_iff,zh,List.mem_cons,not_or]
    exact⟨fun h=>⟨fun h=>hx h.symm,h⟩,fun h=>h.2⟩
def KB {c:UInt8}:∀{a b:List UInt8},c ∉ a->cut c (a++c::b)=U (a,b)
 |[],b,_=>by simp[cut]
 | x::a,b,h=>by
   simp only[List.mem_cons,not_or]at h;rw[cF];unfold cut;rw[if_neg fun e=>h.1 e.symm,KB h.2];rfl
def gb (b:UInt8):Prop:=(97<=b.toNat/\b.toNat<=122)\/(65<=b.toNat/\b.toNat<=90)
def jg (b:UInt8):Prop:=48<=b.toNat/\b.toNat<=57
def Nm (s:List UInt8):Prop:=(1<=s.length/\s.length<=8)/\∀i (h:i<s.length),gb s[i]\/(i≠0/\jg s[i])
noncomputable instance (s:List UInt8):Decidable (Nm s):=Classical.propDecidable _
def Nm.mem {s:List UInt8}(h:Nm s){b:UInt8}(hb:b∈s):gb b\/jg b:=by
 obtain⟨i,hi,rfl⟩:=List.mem_iff_getElem.1 hb;rcases h.2 i hi with h|h
 ·exact .inl h
 ·exact .inr h.2
def Nm.no {s:List UInt8}(h:Nm s)(b:UInt8)(hb:¬ (gb b\/jg b)):b ∉ s:=fun hm=>hb (h.mem hm)
def no41:¬(gb 41\/jg 41):=by simp[gb,jg]
def KC:¬(gb 59\/jg 59):=by simp[gb,jg]
def Nm.ne {s:List UInt8}(h:Nm s):s≠[]:=by rintro rfl;exact absurd h.1.1 (by simp)
def DA:¬Nm []:=fun h=>h.ne rfl
def Tok (t:List UInt8):Prop:=t=[73]\/∃n,Nm n/\t=76::(n++[59])
noncomputable instance (s:List UInt8):Decidable (Tok s):=Classical.propDecidable _
def Tok.no41 {t:List UInt8}(h:Tok t):(41:UInt8) ∉ t:=by
 rcases h with rfl|⟨n,hn,rfl⟩
 ·simp
 ·have:=hn.no 41 Stow.no41;simp[this]
def uh:¬Tok []:=by
 rintro(h|⟨n,_,h⟩)<;>cases h
noncomputable def one:List UInt8->Option (List UInt8×List UInt8)
 |[]=>aj
 |x::r=>if x=73 then U ([73],r)else if x=76 then(cut 59 r).bind fun p=>if Nm p.1 then U (76::(p.1++[59]),p.2)else aj else aj
def DB (x:UInt8)(r:List UInt8):one (x::r)=if x=73 then U ([73],r)else if x=76 then(cut 59 r).bind fun p=>if Nm p.1 then U (76::(p.1++[59]),p.2)else aj else aj:=rfl
def lj {l t r:List UInt8}(h:one l=U (t,r)):l=t++r/\Tok t:=by
 cases l with
 |nil=>cases h
 | cons x l=>
   rw[DB]at h;by_cases h1:x=73
   ·rw[if_pos h1]at h;simp only[aF,bm]at h;obtain⟨rfl,rfl⟩:=h;exact⟨by rw[h1];rfl,.inl rfl⟩
   ·rw[if_neg h1]at h;by_cases h2:x=76
    ·rw[if_pos h2]at h;cases hc:cut 59 l with
     |none=>rw[hc]at h;cases h
     | some p=>
       obtain⟨n,b⟩:=p;rw[hc,bh]at h;by_cases hn:Nm n
       ·rw[if_pos hn]at h;simp only[aF,bm]at h;obtain⟨rfl,rfl⟩:=h;obtain⟨e,_⟩:=ug hc;exact⟨by rw[h2,e];simp,.inr ⟨n,hn,rfl⟩⟩
       ·rw[if_neg hn]at h;cases h
    ·rw[if_neg h2]at h;cases h
def zi {t:List UInt8}(h:Tok t)(r:List UInt8):one (t++r)=U (t,r):=by
 rcases h with rfl|⟨n,hn,rfl⟩
 ·rfl
 ·rw[cF,DB,if_neg (by decide),if_pos rfl];have:(n++[59])++r=n++59::r:=by simp
  rw[this,KB (hn.no 59 KC),bh,if_pos hn]
def DC {l:List UInt8}:one l=aj↔∀t r,l=t++r->¬Tok t:=by
 constructor
 ·intro h t r e ht;rw[e,zi ht]at h;cases h
 ·intro h;cases ho:one l with
  |none=>rfl
  | some p=>
    obtain⟨t,r⟩:=p;obtain⟨h1,h2⟩:=lj ho;exact absurd h2 (h t r h1)
def KD {s:List UInt8}:Tok s↔one s=U (s,[]):=by
 constructor
 ·intro h;have:=zi h [];rwa[cB]at this
 ·intro h;exact(lj h).2
noncomputable def more:Nat->List UInt8->Option (List (List UInt8)×List UInt8)
 |_,[]=>aj
 |0,x::l=>if x=41 then U ([],l)else aj
 |k+1,x::l=>if x=41 then U ([],l)else(one (x::l)).bind fun p=>(more k p.2).map fun q=>(p.1::q.1,q.2)
noncomputable def mr:Nat->List UInt8->Option (List (List UInt8))
 |_,[]=>U []
 |0,_::_=>aj
 |k+1,x::l=>(one (x::l)).bind fun p=>(mr k p.2).map fun q=>p.1::q
def zj (k:Nat)(x:UInt8)(l:List UInt8):more (k+1) (x::l)=if x=41 then U ([],l)else(one (x::l)).bind fun p=>(more k p.2).map fun q=>(p.1::q.1,q.2):=rfl
def KE (k:Nat)(x:UInt8)(l:List UInt8):mr (k+1) (x::l)=(one (x::l)).bind fun p=>(mr k p.2).map fun q=>p.1::q:=rfl
def zb6 {l b:List UInt8}(h:(41:UInt8) ∉ l)(hl:l≠[]):one (l++41::b)=(one l).map fun p=>(p.1,p.2++41::b):=by
 cases ho:one l with
 | some p=>
   obtain⟨t,r⟩:=p;obtain⟨h1,h2⟩:=lj ho;rw[h1,bD,zi h2];rfl
 | none=>
   rw[Option.map_none,DC];intro t r e ht;have h41:=ht.no41;rw[DC]at ho
   have hle:t.length<=l.length:=by
    refine Nat.le_of_not_lt fun hlt=>h41 ?_
    have e2:(l++41::b)[l.length]? = (t++r)[l.length]?:=by rw[e]
    rw[List.getElem?_append_right (bJ _),Nat.sub_self,List.getElem?_append_left hlt]at e2;exact dO e2.symm
   have e3:l=t++l.drop t.length:=by
    have e4:=congrArg (de t.length) e;rw[List.take_append_of_le_length hle,List.take_append_of_le_length (bJ _),List.take_length]at e4;rw[<-e4,bT,Nat.min_eq_left hle,List.take_append_drop]
   exact ho t _ e3 ht
def KF:∀(k:Nat) (l b:List UInt8),(41:UInt8) ∉ l->more k (l++41::b)=(mr k l).map fun q=>(q,b)
 |0,[],b,_=>by simp[more,mr]
 |_+1,[],b,_=>by simp[more,mr]
 | 0,x::l,b,h=>by
   have:x≠41:=fun e=>h (by simp[e])
   simp[more,mr,this]
 | k+1,x::l,b,h=>by
   have hx:x≠41:=fun e=>h (by simp[e])
   have:=zb6 (b:=b) h (by simp);rw[cF]at this ⊢;rw[zj,KE,if_neg hx,this];cases ho:one (x::l)with
   |none=>rfl
   | some p=>
     obtain⟨t,r⟩:=p;obtain⟨h1,h2⟩:=lj ho;have hr:(41:UInt8) ∉ r:=fun hm=>h (by rw[h1];simp[hm])
     show(more k (r++41::b)).map _=((mr k r).map _).map _;rw[KF k r b hr];cases mr k r<;>rfl
def KG:∀(k:Nat) (l:List UInt8),(41:UInt8) ∉ l->more k l=aj
 |0,[],_=>by simp[more]
 |_+1,[],_=>by simp[more]
 | 0,x::l,h=>by
   have:x≠41:=fun e=>h (by simp[e])
   simp[more,this]
 | k+1,x::l,h=>by
   have hx:x≠41:=fun e=>h (by simp[e])
   rw[zj,if_neg hx];cases ho:one (x::l)with
   |none=>rfl
   | some p=>
     obtain⟨t,r⟩:=p;obtain⟨h1,h2⟩:=lj ho;have hr:(41:UInt8) ∉ r:=fun hm=>h (by rw[h1];simp[hm])
     simp only[bh,KG k r hr,Option.map_none]
noncomputable def iS (s:List UInt8):List (List UInt8)×List UInt8×Bool :=
 match s with
 |[]=>([],[],ag)
 | x::l=>if x=40 then
   match more 4 l with
   |none=>([],[],ag)
   |some (ts,back)=>if back=[86]\/Tok back then(ts,back,ae)else([],[],ag)
   else([],[],ag)
def Dsc (s:List UInt8):Prop:=(iS s).2.2=ae
noncomputable instance (s:List UInt8):Decidable (Dsc s):=Classical.propDecidable _
def DD:¬Dsc []:=by simp[Dsc,iS]
abbrev Ent:=Int×List UInt8×Int×Int
def bt (p:List Ent)(i:Int):Ent:=if 1<=i/\i<=p.length then p[(i-1).toNat]?.getD (0,[],0,0)else(0,[],0,0)
def cj (p:List Ent)(i:Int)(Q:List UInt8->Prop):Prop:=(bt p i).1=1/\Q (bt p i).2.1
noncomputable instance (p:List Ent)(i:Int)(Q:List UInt8->Prop):Decidable (cj p i Q):=Classical.propDecidable _
def cW (p:List Ent)(i:Int):Prop:=(bt p i).1=2/\cj p (bt p i).2.2.1 Nm
noncomputable instance (p:List Ent)(i:Int):Decidable (cW p i):=Classical.propDecidable _
noncomputable def cd (p:List Ent)(i:Int):List UInt8:=if cW p i then(bt p (bt p i).2.2.1).2.1 else []
def bw (p:List Ent)(i:Int):List UInt8:=if(bt p i).1=1 then(bt p i).2.1 else []
def lk {p:List Ent}{i:Int}:cd p i≠[]↔cW p i:=by
 unfold cd;constructor
 ·intro h;by_cases hc:cW p i
  ·exact hc
  ·rw[if_neg hc]at h;exact absurd rfl h
 ·intro h;rw[if_pos h];exact h.2.2.ne
def n7 {p:List Ent}{i:Int}{Q:List UInt8->Prop}(h0:¬ Q []):Q (bw p i)↔cj p i Q:=by
 unfold bw cj;by_cases h:(bt p i).1=1
 ·rw[if_pos h];simp[h]
 ·rw[if_neg h];simp[h,h0]
def zOl (s:List UInt8):Prop:=Tok s\/Dsc s
def zNs:¬zOl []:=by
 rintro(h|h)
 ·exact uh h
 ·exact DD h
def fD (p:List Ent)(x:Ent):Prop :=
 if x.1=1 then x.2.2.1=0/\x.2.2.2=0/\(Nm x.2.1\/zOl x.2.1)
 else if x.1=2 then x.2.1=[]/\x.2.2.2=0/\cj p x.2.2.1 Nm
 else if x.1=3 then x.2.1=[]/\cj p x.2.2.1 Nm/\cj p x.2.2.2 zOl
 else if x.1=4 then x.2.1=[]/\cW p x.2.2.1/\(bt p x.2.2.2).1=3/\cj p (bt p x.2.2.2).2.2.2 Tok
 else if x.1=5\/x.1=6 then x.2.1=[]/\cW p x.2.2.1/\(bt p x.2.2.2).1=3/\cj p (bt p x.2.2.2).2.2.2 Dsc
 else False
noncomputable instance (p:List Ent)(x:Ent):Decidable (fD p x):=Classical.propDecidable _
def zYL {p:List Ent}{i:Nat}(h:i<p.length):bt p ((i:Int)+1)=p[i]:=by
 unfold bt;rw[if_pos ⟨by omega,by omega⟩,show((i:Int)+1-1).toNat=i by omega,bI h];rfl
def zYK {p:List Ent}{i:Int}(h:(bt p i).1≠0):∃k,∃_:k<p.length,bt p i=p[k]:=by
 unfold bt at h ⊢;by_cases hi:1<=i/\i<=p.length
 ·rw[if_pos hi]at h ⊢;exact⟨(i-1).toNat,by omega,by rw[bI (by omega)];rfl⟩
 ·rw[if_neg hi]at h;exact absurd rfl h
def pH (p:List Ent):Prop:=∀i (h:i<p.length),fD p p[i]
noncomputable def ei (p:List Ent):Nat->Nat->Int
 |0,_=>0
 |m+1,i=>if h:i<p.length then if fD p p[i]then ei p m (i+1)else(i:Int)+1 else 0
def KH {p:List Ent}:∀(m i:Nat),i+m=p.length->(ei p m i=0↔∀j,i<=j->∀h:j<p.length,fD p p[j])
 | 0,i,hi=>by
   constructor
   ·intro _ j h1 h2;omega
   ·intro _;rfl
 | m+1,i,hi=>by
   have h:i<p.length:=by omega
   unfold ei;rw[dif_pos h];by_cases he:fD p p[i]
   ·rw[if_pos he,KH m (i+1) (by omega)];constructor
    ·intro hh j h1 h2;by_cases hj:j=i
     ·subst hj;exact he
     ·exact hh j (by omega) h2
    ·intro hh j h1 h2;exact hh j (by omega) h2
   ·rw[if_neg he];constructor
    ·intro hh;omega
    ·intro hh;exact absurd (hh i (bJ _) h) he
def KI {p:List Ent}:ei p p.length 0=0↔pH p:=by
 rw[KH p.length 0 (by omega)];exact⟨fun h j hj=>h j (by omega) hj,fun h j _ hj=>h j hj⟩
def pH.cls {p:List Ent}(h:pH p){i:Int}:cW p i↔(bt p i).1=2:=by
 constructor
 ·exact fun h=>h.1
 ·intro h2;obtain⟨k,hk,e⟩:=zYK (p:=p) (i:=i) (by omega);have:=h k hk;rw[<-e]at this;unfold fD at this;rw[if_neg (by omega),if_pos h2]at this;exact⟨h2,this.2.2⟩
def bY (p:List Ent)(i:Int):List UInt8:=if(bt p i).1=2 then(bt p (bt p i).2.2.1).2.1 else(bt p i).2.1
def pI {p:List Ent}{i:Int}(h:cW p i):bY p i=cd p i:=by
 unfold bY cd;rw[if_pos h.1,if_pos h]
def il {p:List Ent}{i:Int}(h:(bt p i).1=1):bY p i=bw p i:=by
 unfold bY bw;rw[if_neg (by omega),if_pos h]
abbrev KndP:=Int×Int
abbrev TrpP:=Int×Int×Int×Int
abbrev FrmP:=Int×List KndP×List KndP
abbrev FldP:=Int×Int×Int
abbrev MthP:=Int×Int×Int×Int×Int×List UInt8×List TrpP×List FrmP
abbrev ClsP:=List Ent×Int×Int×Int×List Int×List FldP×List MthP
def aT (f k:Int):Prop:=f / k % 2=1
instance (f k:Int):Decidable (aT f k):=inferInstanceAs (Decidable (_=_))
def fM (c:ClsP):Prop :=
 cW c.1 c.2.2.1/\cW c.1 c.2.2.2.1/\cd c.1 c.2.2.2.1≠cd c.1 c.2.2.1/\(0<=c.2.1/\c.2.1<=7) /\
 (∀i,i<c.2.2.2.2.1.length->cW c.1 (c.2.2.2.2.1.getD i 0)/\∀k,k<i->cd c.1 (c.2.2.2.2.1.getD k 0)≠cd c.1 (c.2.2.2.2.1.getD i 0)) /\
 ¬(aT c.2.1 2/\aT c.2.1 4)/\(aT c.2.1 1->aT c.2.1 4/\cd c.1 c.2.2.2.1=[79,98,106])
noncomputable instance (c:ClsP):Decidable (fM c):=Classical.propDecidable _
def DE (c:ClsP)(i:Nat):Prop :=
 let f:=c.2.2.2.2.2.1.getD i (0,0,0)
 cj c.1 f.2.1 Nm/\cj c.1 f.2.2 Tok/\(0<=f.1/\f.1<=3)/\(aT c.2.1 1->f.1=1)/\∀k,k<i->bw c.1 (c.2.2.2.2.2.1.getD k (0,0,0)).2.1≠bw c.1 f.2.1
def jG (c:ClsP):Prop:=∀i,i<c.2.2.2.2.2.1.length->DE c i
noncomputable instance (c:ClsP):Decidable (jG c):=Classical.propDecidable _
def bl:MthP:=(0,0,0,0,0,[],[],[])
def lU (c:ClsP)(m:MthP):Prop :=
 (0<=m.1/\m.1<=15)/\(bw c.1 m.2.1=[98,101,103,105,110]->m.1=1/\bw c.1 m.2.2.1=[40,41,86]) /\
 (aT m.1 8->m.1=8/\aT c.2.1 4)/\(¬aT m.1 8->aT c.2.1 1->m.1=1)
noncomputable instance (c:ClsP)(m:MthP):Decidable (lU c m):=Classical.propDecidable _
def zk (c:ClsP)(i:Nat):Prop :=
 let m:=c.2.2.2.2.2.2.getD i bl
 cj c.1 m.2.1 Nm/\cj c.1 m.2.2.1 Dsc/\lU c m /\
 ∀k,k<i->¬(bw c.1 (c.2.2.2.2.2.2.getD k bl).2.1=bw c.1 m.2.1/\bw c.1 (c.2.2.2.2.2.2.getD k bl).2.2.1=bw c.1 m.2.2.1)
def kF (c:ClsP):Prop:=∀i,i<c.2.2.2.2.2.2.length->zk c i
noncomputable instance (c:ClsP):Decidable (kF c):=Classical.propDecidable _
def aY (op:Int):Int:=if op=1 then 2 else if 3<=op/\op<=6 then 1 else if 14<=op/\op<=29 then 2 else if 0<=op/\op<=34 then 0 else -1
def iT (op:Int):List UInt8->Int
 |[]=>0
 |[a]=>a.toNat
 |a::b::_=>if op=1/\32768<=(a.toNat:Int)*256+b.toNat then(a.toNat:Int)*256+b.toNat-65536 else(a.toNat:Int)*256+b.toNat
abbrev InsP:=Int×Int×Int
def ej:Nat->Int->List UInt8->Option (List InsP)
 |_,_,[]=>U []
 |0,_,_::_=>aj
 | k+1,a,x::l=>if aY x.toNat<0\/(l.length:Int)<aY x.toNat then aj
   else(ej k (a+1+aY x.toNat) (l.drop (aY x.toNat).toNat)).map fun r=>(a,(x.toNat:Int),iT x.toNat (l.take (aY x.toNat).toNat))::r
def bN (s:List UInt8):List InsP×Bool:=match ej s.length 0 s with
 |some (x::r)=>(x::r,ae)
 |_=>([],ag)
def cr (l:List InsP)(a:Int):Int:=match l.findIdx? (fun x=>aa (x.1=a))with
 |some j=>j
 |none=>-1
def cK (op:Int):Int:=if op=19\/op=28\/op=29 then 2 else if 20<=op/\op<=23 then 4 else if 24<=op/\op<=26 then 5 else if op=27 then 6 else 0
def jH (p:List Ent)(locals:Int)(l:List InsP)(x:InsP):Prop :=
 (3<=x.2.1/\x.2.1<=6->x.2.2<locals)/\(14<=x.2.1/\x.2.1<=18->0<=cr l x.2.2)/\(cK x.2.1≠0->(bt p x.2.2).1=cK x.2.1)
noncomputable instance (p:List Ent)(locals:Int)(l:List InsP)(x:InsP):Decidable (jH p locals l x):=Classical.propDecidable _
def iU (p:List Ent)(n:Int)(l:List InsP)(t:TrpP):Prop :=
 t.1<t.2.1/\0<=cr l t.1/\(t.2.1=n\/0<=cr l t.2.1)/\0<=cr l t.2.2.1/\(t.2.2.2=0\/cW p t.2.2.2)
noncomputable instance (p:List Ent)(n:Int)(l:List InsP)(t:TrpP):Decidable (iU p n l t):=Classical.propDecidable _
def ll (p:List Ent)(k:KndP):Prop:=(0<=k.1/\k.1<=3)/\(k.1=3->cW p k.2)/\(k.1≠3->k.2=0)
noncomputable instance (p:List Ent)(k:KndP):Decidable (ll p k):=Classical.propDecidable _
def dW (p:List Ent)(l:List KndP):Prop:=∀k∈l,ll p k
noncomputable instance (p:List Ent)(l:List KndP):Decidable (dW p l):=Classical.propDecidable _
def rq (p:List Ent)(m:MthP)(l:List InsP)(i:Nat):Prop :=
 let f:=m.2.2.2.2.2.2.2.getD i (0,[],[])
 0<=cr l f.1/\(0<i->(m.2.2.2.2.2.2.2.getD (i-1) (0,[],[])).1<f.1)/\(f.2.1.length:Int)=m.2.2.2.2.1/\(f.2.2.length:Int)<=m.2.2.2.1/\dW p f.2.1/\dW p f.2.2
def pJ (p:List Ent)(m:MthP)(l:List InsP):Prop:=∀i,i<m.2.2.2.2.2.2.2.length->rq p m l i
noncomputable instance (p:List Ent)(m:MthP)(l:List InsP):Decidable (pJ p m l):=Classical.propDecidable _
noncomputable def lV (p:List Ent)(m:MthP):Int:=if aT m.1 1 then((iS (bw p m.2.2.1)).1.length:Int)else(iS (bw p m.2.2.1)).1.length+1
def eo (p:List Ent)(m:MthP):Prop :=
 (bN m.2.2.2.2.2.1).2=ae/\m.2.2.2.1<=8/\(lV p m<=m.2.2.2.2.1/\m.2.2.2.2.1<=8) /\
 (∀x∈(bN m.2.2.2.2.2.1).1,jH p m.2.2.2.2.1 (bN m.2.2.2.2.2.1).1 x)/\(∀t∈m.2.2.2.2.2.2.1,iU p m.2.2.2.2.2.1.length (bN m.2.2.2.2.2.1).1 t)/\pJ p m (bN m.2.2.2.2.2.1).1
noncomputable instance (p:List Ent)(m:MthP):Decidable (eo p m):=Classical.propDecidable _
def mR (c:ClsP):Prop:=∀m∈c.2.2.2.2.2.2,¬aT m.1 8->eo c.1 m
noncomputable instance (c:ClsP):Decidable (mR c):=Classical.propDecidable _
noncomputable def dR (c:ClsP):Int:=if ei c.1 c.1.length 0≠0 then 2 else if ¬fM c then 3 else if ¬jG c then 4 else if ¬kF c then 5 else if ¬mR c then 6 else 0
end
end Go.Stow
section
namespace Go.TM
open Go.AM
section
variable {α X Y R:Type}
def zl {f:X->Option (X⊕(Y⊕R))}(mk:Nat->X)(fin:Y)(no:R)(n:Nat)(p:Nat->Prop){x0:X}(hx:x0=mk 0){k:Y->Option R}{r:Option R}
  (hend:f (mk n)=U (.inr (.inl fin)))
  (hy:∀i,i<n->p i->f (mk i)=U (.inl (mk (i+1))))
  (hn:∀i,i<n->¬p i->f (mk i)=U (.inr (.inr no)))
  (hk:(∀i,i<n->p i)->k fin=r) (hno:¬(∀i,i<n->p i)->U no=r):bindE (aE f x0) k=r:=by
 have key:∀(m i:Nat),i+m=n->((∀j,i<=j->j<n->p j)->aE f (mk i)=U (.inl fin))/\(¬(∀j,i<=j->j<n->p j)->aE f (mk i)=U (.inr no)):=by
  intro m
  induction m with
  | zero=>
    intro i hi;have:i=n:=by omega
    subst this;rw[eV,hend];exact⟨fun _=>rfl,fun h=>absurd (fun j h1 h2=>absurd h2 (by omega)) h⟩
  | succ m ih=>
    intro i hi;obtain⟨i1,i2⟩:=ih (i+1) (by omega);rw[eV];by_cases hp:p i
    ·rw[hy i (by omega) hp];refine⟨fun h=>i1 fun j h1 h2=>h j (by omega) h2,fun h=>i2 fun h'=>h fun j h1 h2=>?_⟩;by_cases hj:j=i
     ·rw[hj];exact hp
     ·exact h' j (by omega) h2
    ·rw[hn i (by omega) hp];exact⟨fun h=>absurd (h i (bJ _) (by omega)) hp,fun _=>rfl⟩
 obtain⟨k1,k2⟩:=key n 0 (by omega);rw[hx];by_cases h:∀i,i<n->p i
 ·rw[k1 fun j _ h2=>h j h2,aJ,hk h]
 ·rw[k2 fun h'=>h fun i hi=>h' i (by omega) hi,aV,hno h]
def DF {f:X->Option (X⊕(Y⊕R))}(mk:Nat->X)(fin:Y)(l:List α)(p:α->Bool)(g:Nat->R){x0:X}(hx:x0=mk 0){k:Y->Option R}
  (hend:f (mk l.length)=U (.inr (.inl fin)))
  (hstep:∀i (h:i<l.length),f (mk i)=if p l[i]=ae then U (.inr (.inr (g i)))else U (.inl (mk (i+1)))) :
  bindE (aE f x0) k=match l.findIdx? p with|some j=>U (g j)|none=>k fin:=by
 have key:∀(m i:Nat),i+m=l.length->aE f (mk i)=U (match(l.drop i).findIdx? p with|some j=>.inr (g (i+j))|none=>.inl fin):=by
  intro m
  induction m with
  | zero=>
    intro i hi;have:i=l.length:=by omega
    subst this;rw[eV,hend,List.drop_eq_nil_of_le (bJ _)];rfl
  | succ m ih=>
    intro i hi;have h:i<l.length:=by omega
    rw[eV,hstep i h,kv h,List.findIdx?_cons];by_cases hp:p l[i]=ae
    ·rw[if_pos hp,if_pos hp];rfl
    ·rw[if_neg hp,if_neg hp];simp only
     rw[ih (i+1) (by omega)];cases (l.drop (i+1)).findIdx? p with
     |none=>rfl
     |some j=>simp only[Option.map_some,aF];rw[show i+1+j=i+(j+1)by omega]
 rw[hx,key l.length 0 (by omega),List.drop_zero];cases l.findIdx? p with
 |none=>rfl
 |some j=>simp only[aV,Nat.zero_add]
end
end Go.TM
end
section
namespace Go.Stow
instance (b:UInt8):Decidable (gb b):=inferInstanceAs (Decidable (_\/_))
instance (b:UInt8):Decidable (jg b):=inferInstanceAs (Decidable (_/\_))
def KJ {c:UInt8}:∀l:List UInt8,cut c l=match l.findIdx? (fun x=>aa (x=c))with|some j=>U (l.take j,l.drop (j+1))|none=>aj
 |[]=>rfl
 | x::l=>by
   rw[List.findIdx?_cons];unfold cut;by_cases hx:x=c
   ·simp[hx]
   ·rw[if_neg hx,if_neg (by simpa using hx),KJ l];cases l.findIdx? (fun x=>aa (x=c))<;>rfl
def zm {c:UInt8}:∀{a b:List UInt8},c ∉ a->Lib.indexByte (a++c::b) c=a.length
 |[],b,_=>by simp[Lib.indexByte]
 | x::a,b,h=>by
   simp only[List.mem_cons,not_or]at h;have:=zm (b:=b) h.2;have hx:(x==c)=ag:=by simpa using fun e:x=c=>h.1 e.symm
   have h1:(((a.length:Int)) == -1)=ag:=by simp<;>omega
   simp only[cF,Lib.indexByte,hx,cV,if_false,this,bL,h1]
   omega
def DG {c:UInt8}:∀{l:List UInt8},c ∉ l->Lib.indexByte l c = -1
 |[],_=>rfl
 | x::l,h=>by
   simp only[List.mem_cons,not_or]at h;have hx:(x==c)=ag:=by simpa using fun e:x=c=>h.1 e.symm
   simp only[Lib.indexByte,hx,cV,if_false,DG h.2,beq_self_eq_true,if_true]
end Go.Stow
namespace Go.TM
open Go.AM
section
variable {X Y R:Type}
def n8 {f:X->Option (X⊕Y)}{x x':X}(h:f x=U (.inl x')):aE f x=aE f x':=by rw[eV,h]
def iV {f:X->Option (X⊕Y)}{x:X}{y:Y}(h:f x=U (.inr y)):aE f x=U y:=by rw[eV,h]
end
end Go.TM
namespace Go.Proofs.YtmjlecabpbiigaaGreat
open Go Go.AM Go.TM Go.Stow
def jh (n a b:Int):eY (n,a,b)=U (aa (a<=n/\n<=b)):=by
 simp only[eY,aG]
 by_cases h:a<=n<;>simp[h]
def jI (n a b:Int):gw (n,a,b)=U (aa (a<=n/\n<=b)):=jh n a b
def KK (b:UInt8):xh (b.toNat:Int)=U (aa (gb b)):=by
 simp only[xh,aG]
 repeat' split
 all_goals
  rw[aF,Bool.eq_iff_iff,decide_eq_true_iff (p:=gb b)];simp only[gb,aL,true_iff,cV,false_iff]
  omega
def n9 (s:List UInt8)(hl:s.length<=1048576):kZ s=U (aa (Nm s)):=by
 simp only[kZ]
 refine zl (fun i=>(s,(i:Int))) s ag s.length (fun i=>∀h:i<s.length,gb s[i]\/(i≠0/\jg s[i])) rfl ?_ ?_ ?_ ?_ ?_
 ·simp only[bH,bc,aM]
 ·intro i h hp;have hp:=hp h;have hi:(i:Int)<s.length:=by omega
  have h0:(0:Int)<=i:=by omega
  simp (discharger:=omega) only[hi,h0,ay,aN,aD,aS,bq,KK,ax,bW,aG]
  by_cases hq:gb s[i]
  ·simp (discharger:=omega) only[hq,if_true,aJ,wI];rfl
  ·have hd:=hp.resolve_left hq;have hi0:¬(i:Int)=0:=by omega
   have hd1:¬(s[i].toNat:Int)<48:=by have:=hd.2.1;omega
   have hd2:¬(57:Int)<s[i].toNat:=by have:=hd.2.2;omega
   simp (discharger:=omega) only[hq,if_false,hi0,hd1,hd2,aJ,wI];rfl
 ·intro i h hp;have hp:¬(gb s[i]\/(i≠0/\jg s[i])):=fun e=>hp fun _=>e
  have hi:(i:Int)<s.length:=by omega
  have h0:(0:Int)<=i:=by omega
  simp (discharger:=omega) only[hi,h0,ay,aN,aD,aS,bq,KK,ax,bW,aG]
  have hq:¬gb s[i]:=fun e=>hp (.inl e)
  simp only[hq,if_false]
  by_cases hi0:(i:Int)=0
  ·simp only[hi0,if_true,aV]
  ·by_cases hd1:(s[i].toNat:Int)<48
   ·simp only[hi0,hd1,if_true,if_false,aV]
   ·by_cases hd2:(57:Int)<s[i].toNat
    ·simp only[hi0,hd1,hd2,if_true,if_false,aV]
    ·exact absurd (.inr ⟨by omega,by omega,by omega⟩) hp
 ·intro h;rw[jh,ax];congr 1;rw[decide_eq_decide];exact⟨fun⟨h1,h2⟩=>⟨⟨by omega,by omega⟩,fun i hi=>h i hi hi⟩,fun hn=>⟨by have:=hn.1;omega,by have:=hn.1;omega⟩⟩
 ·intro h;rw[eq_comm];simp only[aF,bS]
  exact fun hn=>h fun i _ hi=>hn.2 i hi
def ui (s:List UInt8)(hl:s.length<=1048576):nT s=U (aa (Nm s)):=by
 simp only[nT,jI,ax,bW,aG]
 by_cases hr:(1:Int)<=s.length/\(s.length:Int)<=8
 ·rw[if_pos hr];have h0:0<s.length:=by omega
  simp (discharger:=omega) only[bq]
  by_cases hd:(48:Int)<=s[0].toNat/\(s[0].toNat:Int)<=57
  ·simp only[hd.1,hd.2,if_true,aV,aF,eq_comm (a:=ag),bS]
   intro hn;have:=hn.2 0 h0;simp only[gb,jg]at this;omega
  ·rw[show(if(48:Int)<=s[0].toNat then if(s[0].toNat:Int)<=57 then U (Sum.inr ag)else U (Sum.inl s)else U (Sum.inl s):Option (List UInt8⊕Bool))=U (Sum.inl s)by
    split
    ·split
     ·rename_i a b;exact absurd ⟨a,b⟩ hd
     ·rfl
    ·rfl]
   rw[aJ];refine zl (fun i=>(s,(s.length:Int),(i:Int))) () ag s.length (fun i=>∀h:i<s.length,gb s[i]\/jg s[i]) rfl ?_ ?_ ?_ ?_ ?_
   ·simp only[bH,if_false]
   ·intro i h hp;have hp:=hp h;have hi:(i:Int)<s.length:=by omega
    have hi0:(0:Int)<=i:=by omega
    have hw:IntKind.wrap .i64 ((i:Int)+1)=((i+1:Nat):Int):=by rw[wI (by omega) (by omega)];omega
    simp (discharger:=omega) only[hi,hi0,ay,if_true,aD,aS,bq,fC,aJ,aV,hw]
    generalize s[i]=b at hp;simp only[gb,jg]at hp
    repeat' split
    all_goals first|rfl|(exfalso;omega)
   ·intro i h hp;have hp:¬(gb s[i]\/jg s[i]):=fun e=>hp fun _=>e
    have hi:(i:Int)<s.length:=by omega
    have hi0:(0:Int)<=i:=by omega
    simp (discharger:=omega) only[hi,hi0,ay,if_true,aD,aS,bq,fC,aJ,aV]
    generalize s[i]=b at hp;simp only[gb,jg]at hp
    repeat' split
    all_goals first|rfl|(exfalso;omega)
   ·intro h;rw[eq_comm];simp only[aF,aL]
    refine⟨⟨by omega,by omega⟩,fun i hi=>?_⟩;rcases h i hi hi with hq|hq
    ·exact .inl hq
    ·by_cases h00:i=0
     ·subst h00;exact absurd ⟨by have:=hq.1;omega,by have:=hq.2;omega⟩ hd
     ·exact .inr ⟨h00,hq⟩
   ·intro h;rw[eq_comm];simp only[aF,bS]
    exact fun hn=>h fun i _ hi=>(hn.2 i hi).imp id fun hq=>hq.2
 ·rw[if_neg hr,aV,eq_comm];simp only[aF,bS]
  exact fun hn=>hr ⟨by have:=hn.1;omega,by have:=hn.1;omega⟩
end Go.Proofs.YtmjlecabpbiigaaGreat
end
section
namespace Go.TM
open Go.AM
section
variable {α X Y R S:Type}
def ep {l:List α}{n:Nat}{k:α->Option R}(d:α)(h:n<l.length):aq l n k=k (l.getD n d):=by
 rw[bq h,List.getD_eq_getElem?_getD,bI h];rfl
def DH {f:X->Option (X⊕(Y⊕R))}(F:Option R->Option S)(mk:Nat->X)(fin:Y)(no:R)(n:Nat)(q:Nat->Prop){x0:X}{k:Y->Option R}{P:Prop}{A B:Option S}(hx:x0=mk 0)
  (hend:f (mk n)=U (.inr (.inl fin)))
  (hstep:∀i,i<n->(q i/\f (mk i)=U (.inl (mk (i+1))))\/(¬q i/\f (mk i)=U (.inr (.inr no))))
  (hP:P↔∀i,i<n->q i) (hA:F (k fin)=A) (hB:F (U no)=B) :
  (P/\F (bindE (aE f x0) k)=A)\/(¬P/\F (bindE (aE f x0) k)=B):=by
 have key:∀r,((∀i,i<n->q i)->k fin=r)->(¬(∀i,i<n->q i)->U no=r)->bindE (aE f x0) k=r:=fun r h1 h2=>
  zl mk fin no n q hx hend (fun i h hq=>(hstep i h).elim (fun h=>h.2) fun h=>absurd hq h.1) (fun i h hq=>(hstep i h).elim (fun h=>absurd h.1 hq) fun h=>h.2) h1 h2
 by_cases h:∀i,i<n->q i
 ·exact .inl ⟨hP.2 h,by rw[key (k fin) (fun _=>rfl) (fun h'=>absurd h h'),hA]⟩
 ·exact .inr ⟨fun hp=>h (hP.1 hp),by rw[key (U no) (fun h'=>absurd h' h) (fun _=>rfl),hB]⟩
def ji {f:X->Option (X⊕(Y⊕R))}(mk:Nat->X)(fin:Y)(no:R)(n:Nat)(q:Nat->Prop){x0:X}{k:Y->Option R}{r:Option R}(hx:x0=mk 0)
  (hend:f (mk n)=U (.inr (.inl fin)))
  (hstep:∀i,i<n->(q i/\f (mk i)=U (.inl (mk (i+1))))\/(¬q i/\f (mk i)=U (.inr (.inr no))))
  (hk:(∀i,i<n->q i)->k fin=r) (hno:¬(∀i,i<n->q i)->U no=r):bindE (aE f x0) k=r :=
 zl mk fin no n q hx hend (fun i h hq=>(hstep i h).elim (fun h=>h.2) fun h=>absurd hq h.1) (fun i h hq=>(hstep i h).elim (fun h=>absurd h.1 hq) fun h=>h.2) hk hno
def zo {f:X->Option (X⊕(Y⊕R))}(mk:Nat->X)(fin:Y)(g:Nat->R)(n:Nat)(q:Nat->Prop){x0:X}{k:Y->Option R}(hx:x0=mk 0)
  (hend:f (mk n)=U (.inr (.inl fin)))
  (hstep:∀i,i<n->(q i/\f (mk i)=U (.inr (.inr (g i))))\/(¬q i/\f (mk i)=U (.inl (mk (i+1))))) :
  ((∀i,i<n->¬q i)/\bindE (aE f x0) k=k fin)\/(∃i,i<n/\q i/\bindE (aE f x0) k=U (g i)):=by
 have key:∀(m i:Nat),i+m=n->((∀j,i<=j->j<n->¬q j)/\aE f (mk i)=U (.inl fin))\/(∃j,j<n/\q j/\aE f (mk i)=U (.inr (g j))):=by
  intro m
  induction m with
  | zero=>
    intro i hi;have:i=n:=by omega
    subst this;rw[eV,hend];exact .inl ⟨fun j h1 h2=>absurd h2 (by omega),rfl⟩
  | succ m ih=>
    intro i hi;rw[eV];rcases hstep i (by omega)with⟨hq,e⟩|⟨hq,e⟩
    ·rw[e];exact .inr ⟨i,by omega,hq,rfl⟩
    ·rw[e];rcases ih (i+1) (by omega)with⟨h1,h2⟩|h
     ·refine .inl ⟨fun j h3 h4=>?_,h2⟩;by_cases hj:j=i
      ·rw[hj];exact hq
      ·exact h1 j (by omega) h4
     ·exact .inr h
 rw[hx];rcases key n 0 (by omega)with⟨h1,h2⟩|⟨j,h1,h2,h3⟩
 ·exact .inl ⟨fun i hi=>h1 i (by omega) hi,by rw[h2,aJ]⟩
 ·exact .inr ⟨j,h1,h2,by rw[h3,aV]⟩
end
end Go.TM
end
section
namespace Go.Stow
abbrev Fil:=List UInt8×List UInt8
abbrev Wy:=List UInt8×Int
abbrev Ldr:=List Fil×List Wy×Int
def n_ (n:List UInt8):Prop:=n=[79,98,106]\/n=[69,114,114]
instance (n:List UInt8):Decidable (n_ n):=inferInstanceAs (Decidable (_\/_))
def lW (fs:List Fil)(i:Nat):Prop:=Nm (fs.getD i ([],[])).1/\¬n_ (fs.getD i ([],[])).1/\(fs.getD i ([],[])).2.length<=900/\∀k,k<i->(fs.getD k ([],[])).1≠(fs.getD i ([],[])).1
def mS (ws:List Wy)(n:Int)(i:Nat):Prop:=Nm (ws.getD i ([],0)).1/\(0<=(ws.getD i ([],0)).2/\(ws.getD i ([],0)).2<=n-1)/\(0<i->Op.bytesLess (ws.getD (i-1) ([],0)).1 (ws.getD i ([],0)).1=ae)
def dS (l:Ldr)(n:Int):Prop:=l.1.length<=5/\l.2.1.length<=4/\(-1<=l.2.2/\l.2.2<=n-1)/\(∀i,i<l.1.length->lW l.1 i)/\∀i,i<l.2.1.length->mS l.2.1 n i
noncomputable instance (l:Ldr)(n:Int):Decidable (dS l n):=Classical.propDecidable _
def gU (ls:List Ldr):Prop:=(1<=ls.length/\ls.length<=3)/\∀i,i<ls.length->dS (ls.getD i ([],[],0)) ls.length
noncomputable instance (ls:List Ldr):Decidable (gU ls):=Classical.propDecidable _
def oc (l:Ldr):Prop:=l.1.length<=1000/\(∀f∈l.1,f.1.length<=1000/\f.2.length<=100000)/\l.2.1.length<=1000/\∀w∈l.2.1,w.1.length<=1000
def bLs (ls:List Ldr):Prop:=ls.length<=1000/\∀l∈ls,oc l
def dq {α:Type}(d:α){l:List α}{i:Nat}(h:i<l.length):l[i]? = U (l.getD i d):=by
 rw[bI h,List.getD_eq_getElem?_getD,bI h];rfl
def gD {α:Type}(d:α){l:List α}{i:Nat}(h:i<l.length):l.getD i d∈l:=dO (dq d h)
end Go.Stow
namespace Go.Proofs.YtmjlecabpbiigaaGreat
open Go Go.AM Go.TM Go.Stow
set_option maxRecDepth 10000
def wN {i:Nat}(h:i<=1048576):IntKind.wrap .i64 ((i:Int)+1)=((i+1:Nat):Int):=by rw[wI (by omega) (by omega)];rfl
def zb7 (n:List UInt8):xV n=U (aa (n_ n)):=by
 simp only[xV,aG]
 unfold n_;split
 ·rename_i h;simp[h]
 ·rename_i h;simp[h]
def zb8 (s:List Fil)(a b:List UInt8)(hs:s.length<=1000):ad (xX (s,a,b)) fun y=>y=(aa (∃f∈s,f.1=a),a,b):=by
 have h2:ad (xW (s,a,b)) fun y=>(0<=y.1↔∃f∈s,f.1=a)/\y.2=(a,b):=by
  unfold xW;refine ad.bindE (fun z=>z=(a,b)/\∀f∈s,f.1≠a) (ad.loop (fun z=>∃i:Nat,z=(s,(s.length:Int),(i:Int),a,b)/\i<=s.length/\∀j,j<i->(s.getD j ([],[])).1≠a) (fun z=>s.length-z.2.2.1.toNat) ?_ ⟨0,rfl,Nat.zero_le _,fun j hj=>absurd hj (Nat.not_lt_zero _)⟩) ?_
  ·rintro _ ⟨i,rfl,hi,hA⟩;refine aA (fun h=>?_) fun h=>?_
   ·simp only[aL]at h;have hil:i<s.length:=by omega
    have e:=dq (([],[]):Fil) hil;refine av (by simp) (cg (show s[((i:Int)).toNat]? = _ from e) (ad.bind (P:=fun y=>y=(aa ((s.getD i ([],[])).1=a),a,b)) ⟨_,rfl,rfl⟩ ?_));rintro _ rfl;refine aA (fun hc=>?_) fun hc=>?_
    ·simp only[aL]at hc;exact ad.ret ⟨⟨fun _=>⟨_,gD _ hil,hc⟩,fun _=>Int.natCast_nonneg i⟩,rfl⟩
    ·simp only[bS]at hc;refine ad.ret ⟨⟨i+1,by rw[wN (by omega)],by omega,fun j hj=>?_⟩,by show s.length-(IntKind.wrap .i64 ((i:Int)+1)).toNat<s.length-((i:Int)).toNat;rw[wN (by omega)];omega⟩;by_cases hji:j<i
     ·exact hA j hji
     ·obtain rfl:j=i:=by omega
      exact hc
   ·simp only[bS]at h;obtain rfl:i=s.length:=by omega
    refine ad.ret ⟨rfl,fun f hf=>?_⟩;obtain⟨j,hj,e⟩:=List.getElem_of_mem hf;have:=hA j hj;rw[List.getD_eq_getElem?_getD,bI hj,Option.getD_some,e]at this;exact this
  ·rintro _ ⟨rfl,hA⟩;exact ad.ret ⟨⟨fun h=>by simp at h,fun⟨f,hf,e⟩=>absurd e (hA f hf)⟩,rfl⟩
 unfold xX;refine ad.bind h2 ?_;rintro⟨y,y1,y2⟩ ⟨h,e⟩;obtain⟨rfl,rfl⟩:=Prod.mk.inj e;refine ad.ret ?_;rw[show aa (0<=y)=aa (∃f∈s,f.1=y1)from decide_eq_decide.2 h]
def KL (fs:List Fil)(i:Nat)(hi:i<=fs.length)(a:List UInt8):(∃f∈cU 0 (de i fs),f.1=a)↔∃k,k<i/\(fs.getD k ([],[])).1=a:=by
 rw[List.drop_zero];constructor
 ·rintro⟨f,hf,e⟩;obtain⟨k,hk,ek⟩:=List.getElem_of_mem hf;have hk':k<i:=by have:=hk;rw[bT]at this;omega
  refine⟨k,hk',?_⟩;rw[List.getD_eq_getElem?_getD,bI (by omega),Option.getD_some];rw[List.getElem_take]at ek;rw[ek];exact e
 ·rintro⟨k,hk,e⟩;refine⟨fs.getD k ([],[]),?_,e⟩;have hkl:k<fs.length:=by omega
  refine dO (i:=k) ?_;rw[List.getElem?_take,if_pos hk];exact dq _ hkl
def zb9 (l:Ldr)(n:Int)(hn:0<=n/\n<=1000)(hb:oc l):ad (xY (l,n)) fun y=>y=aa (dS l n):=by
 obtain⟨fs,ws,p⟩:=l;obtain⟨b1,b2,b3,b4⟩:=hb;simp only at b1 b2 b3 b4;have no:¬dS (fs,ws,p) n->ag=aa (dS (fs,ws,p) n):=fun h=>(decide_eq_false h).symm
 have hw:IntKind.wrap .i64 (n-1)=n-1:=wI (by omega) (by omega);unfold xY;refine ad.bindE (fun z=>z=(n,fs,ws,p)/\fs.length<=5/\ws.length<=4 /\ -1<=p/\p<=n-1) ?_ ?_
 ·rw[hw];refine aA (fun h=>?_) fun h=>aA (fun h2=>?_) fun h2=>ad.bind (P:=fun y=>y=aa (-1<=p/\p<=n-1)) ⟨_,jI _ _ _,rfl⟩ ?_
  ·simp only[aL]at h;exact ad.ret (no fun hh=>by have:fs.length<=5:=hh.1;omega)
  ·simp only[aL]at h2;exact ad.ret (no fun hh=>by have:ws.length<=4:=hh.2.1;omega)
  ·rintro _ rfl;refine aA (fun h3=>?_) fun h3=>?_
   ·have h3:¬(-1<=p/\p<=n-1):=of_decide_eq_false (by simpa only[Bool.not_eq_true']using h3);exact ad.ret (no fun hh=>h3 hh.2.2.1)
   ·have h3 : -1<=p/\p<=n-1:=of_decide_eq_true (by simpa only[Bool.not_eq_false']using h3);simp only[bS]at h h2;exact ad.ret ⟨rfl,by omega,by omega,h3⟩
 rintro _ ⟨rfl,h1,h2,h3⟩;refine ad.bindE (fun z=>z=(n,fs,ws,p)/\∀i,i<fs.length->lW fs i) (ad.loop (fun z=>∃i:Nat,z=(n,fs,(fs.length:Int),(i:Int),fs,ws,p)/\i<=fs.length/\∀j,j<i->lW fs j) (fun z=>fs.length-z.2.2.2.1.toNat) ?_ ⟨0,rfl,Nat.zero_le _,fun j hj=>absurd hj (Nat.not_lt_zero _)⟩) ?_
 ·rintro _ ⟨i,rfl,hi,hA⟩;refine aA (fun h=>?_) fun h=>?_
  ·simp only[aL]at h;have hil:i<fs.length:=by omega
   have e:=dq (([],[]):Fil) hil;have hf:=b2 _ (gD (([],[]):Fil) hil);have nf:¬lW fs i->ag=aa (dS (fs,ws,p) n):=fun h=>no fun hh=>h (hh.2.2.2.1 i hil)
   refine ad.bindE (fun z=>z=(n,fs,(fs.length:Int),(i:Int),fs,ws,p)/\lW fs i) (av (by simp) (cg (show fs[((i:Int)).toNat]? = _ from e) (ad.bind (P:=fun y=>y=aa (Nm (fs.getD i ([],[])).1)) ⟨_,ui _ (by omega),rfl⟩ ?_))) ?_
   ·rintro _ rfl;refine aA (fun c1=>?_) fun c1=>ad.bind (P:=fun y=>y=aa (n_ (fs.getD i ([],[])).1)) ⟨_,zb7 _,rfl⟩ ?_
    ·have c1:¬Nm (fs.getD i ([],[])).1:=of_decide_eq_false (by simpa only[Bool.not_eq_true']using c1);exact ad.ret (nf fun hh=>c1 hh.1)
    rintro _ rfl;refine aA (fun c2=>?_) fun c2=>aA (fun c3=>?_) fun c3=>av (by simp;omega) (ad.bind (zb8 _ _ _ (by rw[dx,bT];omega)) ?_)
    ·exact ad.ret (nf fun hh=>hh.2.1 (of_decide_eq_true c2))
    ·simp only[aL]at c3;exact ad.ret (nf fun hh=>by have:=hh.2.2.1;omega)
    rintro _ rfl;refine aA (fun c4=>?_) fun c4=>?_
    ·have c4:=of_decide_eq_true c4;rw[aS,KL fs i (by omega)]at c4;obtain⟨k,hk,ek⟩:=c4;exact ad.ret (nf fun hh=>hh.2.2.2 k hk ek)
    ·have c4:=of_decide_eq_false c4;rw[aS,KL fs i (by omega)]at c4;simp only[bS]at c3;refine ad.ret ⟨rfl,of_decide_eq_true (by simpa only[Bool.not_eq_false']using c1),of_decide_eq_false c2,by omega,fun k hk ek=>c4 ⟨k,hk,ek⟩⟩
   ·rintro _ ⟨rfl,hF⟩;refine ad.ret ⟨⟨i+1,by rw[wN (by omega)],by omega,fun j hj=>?_⟩,by show fs.length-(IntKind.wrap .i64 ((i:Int)+1)).toNat<fs.length-((i:Int)).toNat;rw[wN (by omega)];omega⟩;by_cases hji:j<i
    ·exact hA j hji
    ·obtain rfl:j=i:=by omega
     exact hF
  ·simp only[bS]at h;obtain rfl:i=fs.length:=by omega
   exact ad.ret ⟨rfl,hA⟩
 rintro _ ⟨rfl,hF⟩;refine ad.bindE (fun _=>∀i,i<ws.length->mS ws n i) (ad.loop (fun z=>∃i:Nat,z=(n,ws,(ws.length:Int),(i:Int),fs,ws,p)/\i<=ws.length/\∀j,j<i->mS ws n j) (fun z=>ws.length-z.2.2.2.1.toNat) ?_ ⟨0,rfl,Nat.zero_le _,fun j hj=>absurd hj (Nat.not_lt_zero _)⟩) ?_
 ·rintro _ ⟨i,rfl,hi,hA⟩;refine aA (fun h=>?_) fun h=>?_
  ·simp only[aL]at h;have hil:i<ws.length:=by omega
   have e:=dq (([],0):Wy) hil;have hf:=b4 _ (gD (([],0):Wy) hil);have nf:¬mS ws n i->ag=aa (dS (fs,ws,p) n):=fun h=>no fun hh=>h (hh.2.2.2.2 i hil)
   rw[hw];refine ad.bindE (fun z=>z=(n,ws,(ws.length:Int),(i:Int),fs,ws,p)/\mS ws n i) (av (by simp) (cg (show ws[((i:Int)).toNat]? = _ from e) (ad.bind (P:=fun y=>y=aa (Nm (ws.getD i ([],0)).1)) ⟨_,ui _ (by omega),rfl⟩ ?_))) ?_
   ·rintro _ rfl;refine aA (fun c1=>?_) fun c1=>ad.bind (P:=fun y=>y=aa (0<=(ws.getD i ([],0)).2/\(ws.getD i ([],0)).2<=n-1)) ⟨_,jI _ _ _,rfl⟩ ?_
    ·have c1:¬Nm (ws.getD i ([],0)).1:=of_decide_eq_false (by simpa only[Bool.not_eq_true']using c1);exact ad.ret (nf fun hh=>c1 hh.1)
    have c1:Nm (ws.getD i ([],0)).1:=of_decide_eq_true (by simpa only[Bool.not_eq_false']using c1);rintro _ rfl;refine aA (fun c2=>?_) fun c2=>aA (fun c3=>?_) fun c3=>?_
    ·have c2:¬(0<=(ws.getD i ([],0)).2/\(ws.getD i ([],0)).2<=n-1):=of_decide_eq_false (by simpa only[Bool.not_eq_true']using c2);exact ad.ret (nf fun hh=>c2 hh.2.1)
    ·have c2:0<=(ws.getD i ([],0)).2/\(ws.getD i ([],0)).2<=n-1:=of_decide_eq_true (by simpa only[Bool.not_eq_false']using c2);simp only[aL]at c3;have hw2:IntKind.wrap .i64 ((i:Int)-1)=((i-1:Nat):Int):=by rw[wI (by omega) (by omega)];omega
     rw[hw2];refine av (by simp) (cg (show ws[(((i-1:Nat):Int)).toNat]? = _ from dq (([],0):Wy) (by omega)) (aA (fun c4=>?_) fun c4=>?_))
     ·have c4:Op.bytesLess (ws.getD (i-1) ([],0)).1 (ws.getD i ([],0)).1=ag:=by simpa using c4
      exact ad.ret (nf fun hh=>by have:=hh.2.2 (by omega);rw[c4]at this;cases this)
     ·have c4:Op.bytesLess (ws.getD (i-1) ([],0)).1 (ws.getD i ([],0)).1=ae:=by simpa using c4
      exact ad.ret ⟨rfl,c1,c2,fun _=>c4⟩
    ·have c2:0<=(ws.getD i ([],0)).2/\(ws.getD i ([],0)).2<=n-1:=of_decide_eq_true (by simpa only[Bool.not_eq_false']using c2);simp only[bS]at c3;exact ad.ret ⟨rfl,c1,c2,fun h0=>by omega⟩
   ·rintro _ ⟨rfl,hF⟩;refine ad.ret ⟨⟨i+1,by rw[wN (by omega)],by omega,fun j hj=>?_⟩,by show ws.length-(IntKind.wrap .i64 ((i:Int)+1)).toNat<ws.length-((i:Int)).toNat;rw[wN (by omega)];omega⟩;by_cases hji:j<i
    ·exact hA j hji
    ·obtain rfl:j=i:=by omega
     exact hF
  ·simp only[bS]at h;obtain rfl:i=ws.length:=by omega
   exact ad.ret hA
 intro _ hW;exact ad.ret (decide_eq_true (show dS (fs,ws,p) n from⟨h1,h2,h3,hF,hW⟩)).symm
def zp (ls:List Ldr)(hb:bLs ls):ad (tK ls) fun y=>y=aa (gU ls):=by
 obtain⟨b1,b2⟩:=hb
 have hc:ad (x_ (ls,ls)) fun y=>(0<=y.1↔∃i,i<ls.length/\¬dS (ls.getD i ([],[],0)) ls.length)/\y.2=ls:=by
  unfold x_;refine ad.bindE (fun z=>z=ls/\∀i,i<ls.length->dS (ls.getD i ([],[],0)) ls.length) (ad.loop (fun z=>∃i:Nat,z=(ls,(ls.length:Int),(i:Int),ls)/\i<=ls.length/\∀j,j<i->dS (ls.getD j ([],[],0)) ls.length) (fun z=>ls.length-z.2.2.1.toNat) ?_ ⟨0,rfl,Nat.zero_le _,fun j hj=>absurd hj (Nat.not_lt_zero _)⟩) ?_
  ·rintro _ ⟨i,rfl,hi,hA⟩;refine aA (fun h=>?_) fun h=>?_
   ·simp only[aL]at h;have hil:i<ls.length:=by omega
    have e:=dq (([],[],0):Ldr) hil;have hl:=b2 _ (gD (([],[],0):Ldr) hil)
    have h104:ad (xZ (ls.getD i ([],[],0),ls)) fun y=>y=(!aa (dS (ls.getD i ([],[],0)) ls.length),ls):=by
     unfold xZ;refine ad.bind (zb9 _ (ls.length:Int) (by omega) hl) ?_;rintro _ rfl;exact ad.ret rfl
    refine av (by simp) (cg (show ls[((i:Int)).toNat]? = _ from e) (ad.bind h104 ?_));rintro _ rfl;refine aA (fun hc=>?_) fun hc=>?_
    ·have hc:¬dS (ls.getD i ([],[],0)) ls.length:=of_decide_eq_false (by simpa only[Bool.not_eq_true']using hc);exact ad.ret ⟨⟨fun _=>⟨i,hil,hc⟩,fun _=>Int.natCast_nonneg i⟩,rfl⟩
    ·have hc:dS (ls.getD i ([],[],0)) ls.length:=of_decide_eq_true (by simpa only[Bool.not_eq_false']using hc);refine ad.ret ⟨⟨i+1,by rw[wN (by omega)],by omega,fun j hj=>?_⟩,by show ls.length-(IntKind.wrap .i64 ((i:Int)+1)).toNat<ls.length-((i:Int)).toNat;rw[wN (by omega)];omega⟩;by_cases hji:j<i
     ·exact hA j hji
     ·obtain rfl:j=i:=by omega
      exact hc
   ·simp only[bS]at h;obtain rfl:i=ls.length:=by omega
    exact ad.ret ⟨rfl,hA⟩
  ·rintro _ ⟨rfl,hA⟩;exact ad.ret ⟨⟨fun h=>by simp at h,fun⟨i,hi,e⟩=>absurd (hA i hi) e⟩,rfl⟩
 unfold tK;refine ad.bind (P:=fun y=>y=aa ((1:Int)<=ls.length/\(ls.length:Int)<=3)) ⟨_,jI _ _ _,rfl⟩ ?_;rintro _ rfl;refine aA (fun h=>?_) fun h=>?_
 ·have h:=of_decide_eq_true h;refine ad.bind (P:=fun y=>y.1=aa (∃i,i<ls.length/\¬dS (ls.getD i ([],[],0)) ls.length)) ?_ ?_
  ·unfold CR;refine ad.bind hc ?_;rintro⟨y,y1⟩ ⟨h,-⟩;exact ad.ret (decide_eq_decide.2 h)
  ·rintro⟨y,y1⟩ (rfl:y=_);refine ad.ret ?_;by_cases hh:gU ls
   ·rw[decide_eq_true hh,decide_eq_false fun⟨i,hi,e⟩=>e (hh.2 i hi)];rfl
   ·rw[decide_eq_false hh,decide_eq_true]
    ·rfl
    refine Classical.byContradiction fun hn=>hh ⟨by omega,fun i hi=>Classical.byContradiction fun e=>hn ⟨i,hi,e⟩⟩
 ·have h:=of_decide_eq_false h;exact ad.ret (decide_eq_false fun hh:gU ls=>h (by have:=hh.1;omega)).symm
end Go.Proofs.YtmjlecabpbiigaaGreat
end
