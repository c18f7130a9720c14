/- Part 30 of the proof of FnTidy; no condition. -/
import Derived.Test.YtdpapeledldifaaGreatX28
set_option autoImplicit true
set_option relaxedAutoImplicit true
set_option linter.all false
section
namespace Go.Proofs.YtdpapeledldifaaGreat
open Go Go.AM Go.TM
end Go.Proofs.YtdpapeledldifaaGreat
namespace Go.TM
open Go.AM
section
variable {σ α β Z:Type}
def St (Re:σ→Option (List UInt8)→Prop)(q:Option Z)(mk:β→σ→Z)(m:Option (β×List UInt8)):Prop :=
 ∃v s,q=some (mk v s)∧Re s (m.map (·.2))∧∀v' l,m=some (v',l)→v=v'
variable {Re:σ→Option (List UInt8)→Prop}
def St.step {F:Option (α×σ)}{g:List UInt8→Option (α×List UInt8)}{st:Option (List UInt8)}{k:α×σ→Option Z}{mk:β→σ→Z}{k':α→List UInt8→Option (β×List UInt8)}
  (hF:Sm Re F (st.bind g)) (hk:∀v s' st',Re s' st'→St Re (k (v,s')) mk (st'.bind (k' v))) :
  St Re (zAA F k) mk (st.bind fun l=>(g l).bind fun p=>k' p.1 p.2):=by
 have e:(st.bind fun l=>(g l).bind fun p=>k' p.1 p.2)=(st.bind g).bind fun p=>k' p.1 p.2:=by cases st<;>rfl
 rw[e];obtain⟨v,s,hr,h1,h2⟩:=hF;rw[hr,zAB];have:=hk v s _ h1;cases hm:st.bind g with
 |none=>rw[hm]at this;exact this
 | some p=>
   rw[hm]at this h2;have e:=h2 p.1 p.2 rfl;subst e;exact this
def St.last {F:Option (β×σ)}{g:List UInt8→Option (β×List UInt8)}{st:Option (List UInt8)}{k:β×σ→Option Z}{mk:β→σ→Z}(hF:Sm Re F (st.bind g))(hk:∀ v s',k (v,s')=some (mk v s')):St Re (zAA F k) mk (st.bind g):=by
 obtain⟨v,s,hr,h1,h2⟩:=hF;rw[hr,zAB,hk];exact⟨v,s,rfl,h1,h2⟩
def St.ret {s:σ}{st:Option (List UInt8)}{mk:β→σ→Z}(h:Re s st)(v:β):St Re (some (mk v s)) mk (st.bind fun l=>some (v,l)):=by
 refine⟨v,s,rfl,?_,fun v' l hl=>?_⟩
 ·cases st with
  |none=>exact h
  |some l=>exact h
 ·cases st with
  |none=>cases hl
  |some l=>simp only[zOb,zSe,zPi]at hl;exact hl.1
end
end Go.TM
namespace Go.Proofs.YtdpapeledldifaaGreat
open Go Go.AM Go.TM
def zBS {β γ:Type}(most:Int)(g:List UInt8→Option (β×List UInt8))(K:List β→List UInt8→Option (γ×List UInt8)) :
  (fun l=>(zBj most g l).bind fun p=>K p.1 p.2)=fun l=>(g1 l).bind fun p=>if most<p.1 then none else(gRep g p.1.toNat p.2).bind fun q=>K q.1 q.2:=by
 funext l;unfold zBj;cases g1 l with
 |none=>rfl
 |some p=>simp only[zOb];split<;>rfl
def zTO {β:Type}(m:List UInt8→Option (β×List UInt8)):(fun l=>(m l).bind fun p=>some (p.1,p.2))=m:=by funext l;cases m l<;>rfl
def zEf {most v:Int}{st st1:Option (List UInt8)}(e1:∀ l',st1=some l'→∃ l,st=some l∧g1 l=some (v,l')){l:List UInt8}(hl:(if most<v then none else st1)=some l):0≤v∧v≤most:=by
 split at hl
 ·cases hl
 ·obtain⟨_,_,hg⟩:=e1 l hl;have:=zDj hg;omega
def gKnd (l:List UInt8):Option (Knd×List UInt8):=(g1 l).bind fun p=>if p.1=3 then(g2 p.2).bind fun q=>some ((3,q.1),q.2)else if 3<p.1 then none else some ((p.1,0),p.2)
def gTrp (l:List UInt8):Option (Trp×List UInt8):=(g2 l).bind fun p=>(g2 p.2).bind fun q=>(g2 q.2).bind fun r=>(g2 r.2).bind fun s=>some ((p.1,q.1,r.1,s.1),s.2)
def gFrm (l:List UInt8):Option (Frm×List UInt8):=(g2 l).bind fun p=>(zBj 8 gKnd p.2).bind fun q=>(zBj 8 gKnd q.2).bind fun r=>some ((p.1,q.1,r.1),r.2)
def gFld (l:List UInt8):Option (Fld×List UInt8):=(g1 l).bind fun p=>(g2 p.2).bind fun q=>(g2 q.2).bind fun r=>some ((p.1,q.1,r.1),r.2)
def zFg (y:Int):Prop:=Int.tdiv (Int.tmod y 16) 8=1
instance (y:Int):Decidable (zFg y):=inferInstanceAs (Decidable (Int.tdiv (Int.tmod y 16) 8=1))
def b7 (f n d s lo:Int)(code:List UInt8)(tr:List Trp)(l:List UInt8):Option (Mth×List UInt8):=(zBj 8 gFrm l).bind fun p=>some ((f,n,d,s,lo,code,tr,p.1),p.2)
def b6 (f n d s lo:Int)(code:List UInt8)(l:List UInt8):Option (Mth×List UInt8):=(zBj 3 gTrp l).bind fun p=>b7 f n d s lo code p.1 p.2
def b5 (f n d s lo c:Int)(l:List UInt8):Option (Mth×List UInt8):=if 120<c then none else(gT c l).bind fun p=>b6 f n d s lo p.1 p.2
def b4 (f n d s lo:Int)(l:List UInt8):Option (Mth×List UInt8):=(g2 l).bind fun p=>b5 f n d s lo p.1 p.2
def b3 (f n d s:Int)(l:List UInt8):Option (Mth×List UInt8):=(g1 l).bind fun p=>b4 f n d s p.1 p.2
def zUq (f n d:Int)(l:List UInt8):Option (Mth×List UInt8):=(g1 l).bind fun p=>b3 f n d p.1 p.2
def m3 (f n d:Int)(l:List UInt8):Option (Mth×List UInt8):=if zFg f then some ((f,n,d,0,0,[],[],[]),l)else zUq f n d l
def m2 (f n:Int)(l:List UInt8):Option (Mth×List UInt8):=(g2 l).bind fun p=>m3 f n p.1 p.2
def m1 (f:Int)(l:List UInt8):Option (Mth×List UInt8):=(g2 l).bind fun p=>m2 f p.1 p.2
def gMth (l:List UInt8):Option (Mth×List UInt8):=(g1 l).bind fun p=>m1 p.1 p.2
def gc8 (pool:List Cst)(f n s:Int)(fa:List Int)(fi:List Fld)(l:List UInt8):Option (Cls×List UInt8):=(zBj 6 gMth l).bind fun p=>some ((pool,f,n,s,fa,fi,p.1),p.2)
def gc7 (pool:List Cst)(f n s:Int)(fa:List Int)(l:List UInt8):Option (Cls×List UInt8):=(zBj 5 gFld l).bind fun p=>gc8 pool f n s fa p.1 p.2
def gc6' (pool:List Cst)(f n s:Int)(l:List UInt8):Option (Cls×List UInt8):=(zBj 3 g2 l).bind fun p=>gc7 pool f n s p.1 p.2
def gc5 (pool:List Cst)(f n:Int)(l:List UInt8):Option (Cls×List UInt8):=(g2 l).bind fun p=>gc6' pool f n p.1 p.2
def gc4 (pool:List Cst)(f:Int)(l:List UInt8):Option (Cls×List UInt8):=(g2 l).bind fun p=>gc5 pool f p.1 p.2
def gc3 (pool:List Cst)(l:List UInt8):Option (Cls×List UInt8):=(g1 l).bind fun p=>gc4 pool p.1 p.2
def gc2 (l:List UInt8):Option (Cls×List UInt8):=(zBj 60 zCj l).bind fun p=>gc3 p.1 p.2
def gc1 (t:List UInt8)(l:List UInt8):Option (Cls×List UInt8):=if ¬t=[83,84,79,87]then none else gc2 l
def gCls (l:List UInt8):Option (Cls×List UInt8):=(gT 4 l).bind fun p=>gc1 p.1 p.2
def s317 {s0:List UInt8}(s:List UInt8×Int×Bool)(st:Option (List UInt8))(h:Re3 s0 s st):Sm (Re3 s0) (F317 s) (st.bind (zBj 8 gKnd)):=by
 obtain⟨o0,o1,o2⟩:=s;simp only[F317]
 rw[←zTO (zBj 8 gKnd),zBS 8 gKnd fun p l=>some (p,l)];refine Sm.step (s221 _ st h) (k':=fun n l=>if 8<n then none else(gRep gKnd n.toNat l).bind fun q=>some (q.1,q.2)) fun v ⟨a,b,c⟩ st1 h1 e1=>?_
 simp only[zCh]
 rw[show(if(8:Int)<v then(([]:List Knd),v,a,b,true)else([],v,a,b,c))=([],v,a,b,if 8<v then true else c)by split<;>rfl];simp only
 rw[zBI];have h2:=h1.cut (8<v);refine Sm.loop (fun out i s=>(out,v,(i:Int),s)) (fun out s=>(out,s)) v.toNat gKnd h2 (k':=fun p l=>some (p,l)) rfl ?_ ?_ ?_
 ·intro out i ⟨a,b,c⟩ hs;have:=hs.2.2.2.2.1 rfl;simp only at this;subst this;by_cases hi:(i:Int)<v<;>simp only[hi,zDt,zDf,zAJ,zAI,Bool.not_true,zAH]
 ·intro l hl;have hv:=zEf e1 hl;refine⟨fun out ⟨a,b,c⟩ l hs=>?_,fun out i ⟨a,b,c⟩ l hi ho hs=>?_⟩
  ·have hi:¬((v.toNat:Int)<v):=by omega
   simp only[hi,zDf,zAI,zAH]
  ·have hi':(i:Int)<v:=by omega
   have hc:=(hs.2.2.2.2.2 l rfl).1;simp only at hc;subst hc;simp only[hi',zDt,zAJ,Bool.not_false,zAC]
   have hk:Sm (Re3 s0) (zAA (F221 (a,b,false)) fun x=>match x with
     | (y4,y5,y6,y7)=>bindE (Y:=(Int×Int)×List UInt8×Int×Bool) (cndO (decide (y4=3)) (zAA (F222 (y5,y6,y7)) fun x=>match x with|(y8,y9,y10,y11)=>some (.inl ((y4,y8),y9,y10,y11))) (some (.inl ((y4,0),y5,y6,y7))))
       fun x=>match x with|((o04,o14),o05,o15,o24)=>cndO (decide (3<o04)) (some ((o04,o14),o05,o15,true)) (some ((o04,o14),o05,o15,o24))) ((some l).bind gKnd):=by
    refine Sm.step (s221 _ _ hs) (k':=fun p l=>if p=3 then(g2 l).bind fun q=>some ((3,q.1),q.2)else if 3<p then none else some ((p,0),l)) fun w ⟨a2,b2,gc2⟩ st2 h2 e2=>?_
    simp only[zAG,zAs]
    by_cases hw:w=3
    ·subst hw;simp only[↓reduceIte,zBD,zAC,zIl]
     exact Sm.step (s222 _ st2 h2) (k':=fun q l=>some ((3,q),l)) fun n ⟨a3,b3,gc3⟩ st3 h3 e3=>Sm.ret h3 _
    ·simp only[hw,↓reduceIte,zAC]
     rw[zBI];by_cases h3:3<w
     ·simp only[h3,↓reduceIte]
      exact⟨_,_,rfl,h2.bad,fun _ _ h=>by cases h⟩
     ·simp only[h3,↓reduceIte]
      exact Sm.ret h2 _
   refine hk.one (mk:=fun w s=>(out++[w],v,((i+1:Nat):Int),s)) fun w s' hr=>?_
   rcases h221:F221 (a,b,false)with _|⟨y4,y5,y6,y7⟩
   ·rw[h221]at hr;cases hr
   ·rw[h221]at hr;simp only[zAB,zAG,zAs]at hr ⊢;have ho1:out.length+1≤9223372036854775807:=by omega
    have ho2:(out.length+1)*16≤140737488355328:=by omega
    have hwi:IntKind.wrap .i64 ((i:Int)+1)=((i+1:Nat):Int):=by rw[wI (by omega) (by omega)];omega
    by_cases hy:y4=3
    ·subst hy;simp only[↓reduceIte,zBD,zAC,zIl]at hr ⊢;rcases h222:F222 (y5,y6,y7)with _|⟨y8,y9,y10,y11⟩
     ·rw[h222]at hr;cases hr
     ·rw[h222]at hr;simp only[zAB,zSe,zPi]at hr ⊢;obtain⟨rfl,rfl⟩:=hr;simp only[ho1,ho2,zDt,zAt,zAD,zAC,hwi]
    ·simp only[hy,↓reduceIte,zAC]at hr ⊢;by_cases h3:3<y4
     ·simp only[h3,↓reduceIte,zSe,zPi]at hr ⊢;obtain⟨rfl,rfl⟩:=hr;simp only[ho1,ho2,zDt,zAt,zAD,zAC,hwi]
     ·simp only[h3,↓reduceIte,zSe,zPi]at hr ⊢;obtain⟨rfl,rfl⟩:=hr;simp only[ho1,ho2,zDt,zAt,zAD,zAC,hwi]
 ·intro out ⟨a,b,c⟩ st' hs;exact Sm.ret hs _
def s281 {s0:List UInt8}(vf vn vd:Int)(s:List UInt8×Int×Bool)(st:Option (List UInt8))(h:Re3 s0 s st):Sm (Re3 s0) (F281 ((vf,vn,vd,0,0,[]),s)) (st.bind (zUq vf vn vd)):=by
 obtain⟨o0,o1,o2⟩:=s;simp only[F281]
 refine Sm.step (s221 _ st h) (k':=b3 vf vn vd) fun vs ⟨a,b,c⟩ st1 h1 e1=>?_
 refine Sm.step (s221 _ st1 h1) (k':=b4 vf vn vd vs) fun vl ⟨a,b,c⟩ st2 h2 e2=>?_
 refine Sm.step (s222 _ st2 h2) (k':=b5 vf vn vd vs vl) fun v ⟨a,b,c⟩ st3 h3 e3=>?_
 show Sm _ _ (st3.bind fun l=>if 120<v then none else(gT v l).bind fun p=>b6 vf vn vd vs vl p.1 p.2);simp only[zCh]
 rw[show(if(120:Int)<v then(v,(vf,vn,vd,vs,vl,([]:List UInt8),([]:List Trp),([]:List Frm)),((0:Int),(0:Int),(0:Int),(0:Int),(0:Int),([]:List UInt8),([]:List Trp),([]:List Frm)),a,b,true)else(v,(vf,vn,vd,vs,vl,([]:List UInt8),([]:List Trp),([]:List Frm)),((0:Int),(0:Int),(0:Int),(0:Int),(0:Int),([]:List UInt8),([]:List Trp),([]:List Frm)),a,b,c))=(v,(vf,vn,vd,vs,vl,([]:List UInt8),([]:List Trp),([]:List Frm)),((0:Int),(0:Int),(0:Int),(0:Int),(0:Int),([]:List UInt8),([]:List Trp),([]:List Frm)),a,b,if 120<v then true else c)by split<;>rfl];simp only
 rw[zBI];have h4:=h3.cut (120<v);refine Sm.step (s219 v _ _ h4 fun l hl=>?_) (k':=b6 vf vn vd vs vl) fun vc ⟨a,b,c⟩ st4 h5 e4=>?_
 ·split at hl
  ·cases hl
  ·obtain⟨_,_,hg⟩:=e3 l hl;exact zXM hg
 show Sm _ _ (st4.bind fun l=>(zBj 3 gTrp l).bind fun p=>b7 vf vn vd vs vl vc p.1 p.2);rw[zBS 3 gTrp (b7 vf vn vd vs vl vc)];refine Sm.step (s221 _ st4 h5) (k':=fun n l=>if 3<n then none else(gRep gTrp n.toNat l).bind fun q=>b7 vf vn vd vs vl vc q.1 q.2) fun v2 ⟨a,b,c⟩ st5 h6 e5=>?_
 simp only[zCh]
 rw[show(if(3:Int)<v2 then(v2,(vf,vn,vd,vs,vl,vc,([]:List Trp),([]:List Frm)),((0:Int),(0:Int),(0:Int),(0:Int),(0:Int),([]:List UInt8),([]:List Trp),([]:List Frm)),a,b,true)else(v2,(vf,vn,vd,vs,vl,vc,([]:List Trp),([]:List Frm)),((0:Int),(0:Int),(0:Int),(0:Int),(0:Int),([]:List UInt8),([]:List Trp),([]:List Frm)),a,b,c))=(v2,(vf,vn,vd,vs,vl,vc,([]:List Trp),([]:List Frm)),((0:Int),(0:Int),(0:Int),(0:Int),(0:Int),([]:List UInt8),([]:List Trp),([]:List Frm)),a,b,if 3<v2 then true else c)by split<;>rfl];simp only
 rw[zBI];have h7:=h6.cut (3<v2);refine Sm.loop (fun out i s=>(v2,(i:Int),(vf,vn,vd,vs,vl,vc,out,([]:List Frm)),((0:Int),(0:Int),(0:Int),(0:Int),(0:Int),([]:List UInt8),([]:List Trp),([]:List Frm)),s)) (fun out s=>((vf,vn,vd,vs,vl,vc,out,([]:List Frm)),((0:Int),(0:Int),(0:Int),(0:Int),(0:Int),([]:List UInt8),([]:List Trp),([]:List Frm)),s)) v2.toNat gTrp h7 (k':=b7 vf vn vd vs vl vc) rfl ?_ ?_ ?_
 ·intro out i ⟨a,b,c⟩ hs;have:=hs.2.2.2.2.1 rfl;simp only at this;subst this;by_cases hi:(i:Int)<v2<;>simp only[hi,zDt,zDf,zAJ,zAI,Bool.not_true,zAH]
 ·intro l hl;have hv:=zEf e5 hl;refine⟨fun out ⟨a,b,c⟩ l hs=>?_,fun out i ⟨a,b,c⟩ l hi ho hs=>?_⟩
  ·have hi:¬((v2.toNat:Int)<v2):=by omega
   simp only[hi,zDf,zAI,zAH]
  ·have hi':(i:Int)<v2:=by omega
   have hc:=(hs.2.2.2.2.2 l rfl).1;simp only at hc;subst hc;simp only[hi',zDt,zAJ,Bool.not_false,zAC]
   have ho1:out.length+1≤9223372036854775807:=by omega
   have ho2:(out.length+1)*32≤140737488355328:=by omega
   have hwi:IntKind.wrap .i64 ((i:Int)+1)=((i+1:Nat):Int):=by rw[wI (by omega) (by omega)];omega
   show St (Re3 s0) _ (fun w s'=>Sum.inl ((v2,((i+1:Nat):Int),(vf,vn,vd,vs,vl,vc,out++[w],([]:List Frm)),((0:Int),(0:Int),(0:Int),(0:Int),(0:Int),([]:List UInt8),([]:List Trp),([]:List Frm)),s'))) ((some l).bind gTrp);refine St.step (s222 _ _ hs) (k':=fun p l=>(g2 l).bind fun q=>(g2 q.2).bind fun r=>(g2 r.2).bind fun s=>some ((p,q.1,r.1,s.1),s.2)) fun w0 ⟨a5,b5,gc5⟩ t0 g0=>?_
   refine St.step (s222 _ _ g0) (k':=fun q l=>(g2 l).bind fun r=>(g2 r.2).bind fun s=>some ((w0,q,r.1,s.1),s.2)) fun w1 ⟨a6,b6,gc6⟩ t1 g1=>?_
   refine St.step (s222 _ _ g1) (k':=fun r l=>(g2 l).bind fun s=>some ((w0,w1,r,s.1),s.2)) fun w2 ⟨a7,b7,gc7⟩ t2 g2=>?_
   refine St.step (s222 _ _ g2) (k':=fun s l=>some ((w0,w1,w2,s),l)) fun w3 ⟨a8,b8,gc8⟩ t3 g3=>?_
   simp only[ho1,ho2,zDt,zAt,zAD,hwi]
   exact St.ret (mk:=fun w s'=>Sum.inl ((v2,((i+1:Nat):Int),(vf,vn,vd,vs,vl,vc,out++[w],([]:List Frm)),((0:Int),(0:Int),(0:Int),(0:Int),(0:Int),([]:List UInt8),([]:List Trp),([]:List Frm)),s'))) g3 _
 ·intro out ⟨a,b,c⟩ st' hs;show Sm _ _ (st'.bind fun l=>(zBj 8 gFrm l).bind fun p=>some ((vf,vn,vd,vs,vl,vc,out,p.1),p.2));rw[zBS 8 gFrm fun p l=>some ((vf,vn,vd,vs,vl,vc,out,p),l)];refine Sm.step (s221 _ _ hs) (k':=fun n l=>if 8<n then none else(gRep gFrm n.toNat l).bind fun q=>some ((vf,vn,vd,vs,vl,vc,out,q.1),q.2)) fun v3 ⟨a,b,c⟩ st6 h8 e6=>?_
  simp only[zCh]
  rw[show(if(8:Int)<v3 then(v3,(vf,vn,vd,vs,vl,vc,out,([]:List Frm)),((0:Int),(0:Int),(0:Int),(0:Int),(0:Int),([]:List UInt8),([]:List Trp),([]:List Frm)),a,b,true)else(v3,(vf,vn,vd,vs,vl,vc,out,([]:List Frm)),((0:Int),(0:Int),(0:Int),(0:Int),(0:Int),([]:List UInt8),([]:List Trp),([]:List Frm)),a,b,c))=(v3,(vf,vn,vd,vs,vl,vc,out,([]:List Frm)),((0:Int),(0:Int),(0:Int),(0:Int),(0:Int),([]:List UInt8),([]:List Trp),([]:List Frm)),a,b,if 8<v3 then true else c)by split<;>rfl];simp only
  rw[zBI];have h9:=h8.cut (8<v3);generalize out=tr;refine Sm.loop (fun out i s=>(v3,(i:Int),(vf,vn,vd,vs,vl,vc,tr,out),((0:Int),(0:Int),(0:Int),(0:Int),(0:Int),([]:List UInt8),([]:List Trp),([]:List Frm)),s)) (fun out s=>((vf,vn,vd,vs,vl,vc,tr,out),((0:Int),(0:Int),(0:Int),(0:Int),(0:Int),([]:List UInt8),([]:List Trp),([]:List Frm)),s)) v3.toNat gFrm h9 (k':=fun p l=>some ((vf,vn,vd,vs,vl,vc,tr,p),l)) rfl ?_ ?_ ?_
  ·intro out i ⟨a,b,c⟩ hs;have:=hs.2.2.2.2.1 rfl;simp only at this;subst this;by_cases hi:(i:Int)<v3<;>simp only[hi,zDt,zDf,zAJ,zAI,Bool.not_true,zAH]
  ·intro l hl;have hv:=zEf e6 hl;refine⟨fun out ⟨a,b,c⟩ l hs=>?_,fun out i ⟨a,b,c⟩ l hi ho hs=>?_⟩
   ·have hi:¬((v3.toNat:Int)<v3):=by omega
    simp only[hi,zDf,zAI,zAH]
   ·have hi':(i:Int)<v3:=by omega
    have hc:=(hs.2.2.2.2.2 l rfl).1;simp only at hc;subst hc;simp only[hi',zDt,zAJ,Bool.not_false,zAC]
    have ho1:out.length+1≤9223372036854775807:=by omega
    have ho2:(out.length+1)*56≤140737488355328:=by omega
    have hwi:IntKind.wrap .i64 ((i:Int)+1)=((i+1:Nat):Int):=by rw[wI (by omega) (by omega)];omega
    show St (Re3 s0) _ (fun w s'=>Sum.inl ((v3,((i+1:Nat):Int),(vf,vn,vd,vs,vl,vc,tr,out++[w]),((0:Int),(0:Int),(0:Int),(0:Int),(0:Int),([]:List UInt8),([]:List Trp),([]:List Frm)),s'))) ((some l).bind gFrm);refine St.step (s222 _ _ hs) (k':=fun p l=>(zBj 8 gKnd l).bind fun q=>(zBj 8 gKnd q.2).bind fun r=>some ((p,q.1,r.1),r.2)) fun w0 ⟨a5,b5,gc5⟩ t0 g0=>?_
    refine St.step (s317 _ _ g0) (k':=fun q l=>(zBj 8 gKnd l).bind fun r=>some ((w0,q,r.1),r.2)) fun w1 ⟨a6,b6,gc6⟩ t1 g1=>?_
    refine St.step (s317 _ _ g1) (k':=fun r l=>some ((w0,w1,r),l)) fun w2 ⟨a7,b7,gc7⟩ t2 g2=>?_
    simp only[ho1,ho2,zDt,zAt,zAD,hwi]
    exact St.ret (mk:=fun w s'=>Sum.inl ((v3,((i+1:Nat):Int),(vf,vn,vd,vs,vl,vc,tr,out++[w]),((0:Int),(0:Int),(0:Int),(0:Int),(0:Int),([]:List UInt8),([]:List Trp),([]:List Frm)),s'))) g2 _
  ·intro out ⟨a,b,c⟩ st' hs;exact Sm.ret hs _
def s223 {s0:List UInt8}(s:List UInt8×Int×Bool)(st:Option (List UInt8))(h:Re3 s0 s st):Sm (Re3 s0) (F223 s) (st.bind gMth):=by
 obtain⟨o0,o1,o2⟩:=s;simp only[F223]
 refine Sm.step (s221 _ st h) (k':=m1) fun vf ⟨a,b,c⟩ st1 h1 e1=>?_
 refine Sm.step (s222 _ st1 h1) (k':=m2 vf) fun vn ⟨a,b,c⟩ st2 h2 e2=>?_
 refine Sm.step (s222 _ st2 h2) (k':=m3 vf vn) fun vd ⟨a,b,c⟩ st3 h3 e3=>?_
 have hw:IntKind.wrap .i64 (Int.tdiv (Int.tmod vf 16) 8)=Int.tdiv (Int.tmod vf 16) 8:=by
  have h1:=Int.tmod_lt_of_pos vf (show(0:Int)<16 by omega)
  have h2 : -16<Int.tmod vf 16:=by
   rcases Int.lt_or_le vf 0 with hv|hv
   ·have e:Int.tmod vf 16 = - Int.tmod (-vf) 16:=by rw[Int.neg_tmod];omega
    have:=Int.tmod_lt_of_pos (-vf) (show(0:Int)<16 by omega);omega
   ·have:=Int.tmod_nonneg 16 hv;omega
  generalize Int.tmod vf 16=q at h1 h2
  have h3 : -3<Int.tdiv q 8:=by
   rcases Int.lt_or_le q 0 with hq|hq
   ·have e:Int.tdiv q 8 = - Int.tdiv (-q) 8:=by rw[Int.neg_tdiv];omega
    have:Int.tdiv (-q) 8=(-q) / 8:=Int.tdiv_eq_ediv_of_nonneg (by omega);omega
   ·have:Int.tdiv q 8=q / 8:=Int.tdiv_eq_ediv_of_nonneg hq;omega
  have h4:Int.tdiv q 8<3:=by
   rcases Int.lt_or_le q 0 with hq|hq
   ·have e:Int.tdiv q 8 = - Int.tdiv (-q) 8:=by rw[Int.neg_tdiv];omega
    have:Int.tdiv (-q) 8=(-q) / 8:=Int.tdiv_eq_ediv_of_nonneg (by omega);omega
   ·have:Int.tdiv q 8=q / 8:=Int.tdiv_eq_ediv_of_nonneg hq;omega
  exact wI (by omega) (by omega)
 simp only[hw,zAG]
 by_cases hab:zFg vf
 ·rw[if_pos (show Int.tdiv (Int.tmod vf 16) 8=1 from hab)];have e:m3 vf vn vd=fun l=>some ((vf,vn,vd,0,0,[],[],[]),l):=by funext l;simp only[m3,if_pos hab]
  rw[e];exact Sm.ret h3 _
 ·rw[if_neg (show ¬Int.tdiv (Int.tmod vf 16) 8=1 from hab)];have e:m3 vf vn vd=fun l=>(zUq vf vn vd l).bind fun p=>some (p.1,p.2):=by funext l;simp only[m3,if_neg hab];cases zUq vf vn vd l<;>rfl
  rw[e];exact Sm.step (s281 vf vn vd _ st3 h3) (k':=fun p l=>some (p,l)) fun m ⟨a,b,c⟩ st4 h4 e4=>Sm.ret h4 _
def s142 {s0:List UInt8}(s:List UInt8×Int×Bool)(st:Option (List UInt8))(h:Re3 s0 s st):Sm (Re3 s0) (F142 s) (st.bind gCls):=by
 obtain⟨o0,o1,o2⟩:=s;simp only[F142,zBD,zAU,zCh]
 refine Sm.step (s219 4 _ st h fun _ _=>by omega) (k':=gc1) fun vt ⟨a,b,c⟩ st1 h1 e1=>?_
 simp only
 rw[show(if vt=[83,84,79,87]then((([]:List Cst),(0:Int),(0:Int),(0:Int),([]:List Int),([]:List Fld),([]:List Mth)),(([]:List Cst),(0:Int),(0:Int),(0:Int),([]:List Int),([]:List Fld),([]:List Mth)),a,b,c)else((([]:List Cst),(0:Int),(0:Int),(0:Int),([]:List Int),([]:List Fld),([]:List Mth)),(([]:List Cst),(0:Int),(0:Int),(0:Int),([]:List Int),([]:List Fld),([]:List Mth)),a,b,true))=((([]:List Cst),(0:Int),(0:Int),(0:Int),([]:List Int),([]:List Fld),([]:List Mth)),(([]:List Cst),(0:Int),(0:Int),(0:Int),([]:List Int),([]:List Fld),([]:List Mth)),a,b,if ¬vt=[83,84,79,87]then true else c)by by_cases hvt:vt=[83,84,79,87]<;>simp[hvt]];simp only
 show Sm _ _ (st1.bind fun l=>if ¬vt=[83,84,79,87]then none else gc2 l);rw[zBI];refine Sm.step (s220 _ _ (h1.cut _)) (k':=gc3) fun vp ⟨a,b,c⟩ st2 h2 e2=>?_
 refine Sm.step (s221 _ _ h2) (k':=gc4 vp) fun vf ⟨a,b,c⟩ st3 h3 e3=>?_
 refine Sm.step (s222 _ _ h3) (k':=gc5 vp vf) fun vn ⟨a,b,c⟩ st4 h4 e4=>?_
 refine Sm.step (s222 _ _ h4) (k':=gc6' vp vf vn) fun vs ⟨a,b,c⟩ st5 h5 e5=>?_
 show Sm _ _ (st5.bind fun l=>(zBj 3 g2 l).bind fun p=>gc7 vp vf vn vs p.1 p.2);rw[zBS 3 g2 (gc7 vp vf vn vs)];refine Sm.step (s221 _ _ h5) (k':=fun n l=>if 3<n then none else(gRep g2 n.toNat l).bind fun q=>gc7 vp vf vn vs q.1 q.2) fun v1 ⟨a,b,c⟩ st6 h6 e6=>?_
 simp only[zCh]
 rw[show(if(3:Int)<v1 then(v1,(([]:List Cst),(0:Int),(0:Int),(0:Int),([]:List Int),([]:List Fld),([]:List Mth)),(vp,vf,vn,vs,([]:List Int),([]:List Fld),([]:List Mth)),a,b,true)else(v1,(([]:List Cst),(0:Int),(0:Int),(0:Int),([]:List Int),([]:List Fld),([]:List Mth)),(vp,vf,vn,vs,([]:List Int),([]:List Fld),([]:List Mth)),a,b,c))=(v1,(([]:List Cst),(0:Int),(0:Int),(0:Int),([]:List Int),([]:List Fld),([]:List Mth)),(vp,vf,vn,vs,([]:List Int),([]:List Fld),([]:List Mth)),a,b,if 3<v1 then true else c)by split<;>rfl];simp only
 rw[zBI];have h7:=h6.cut (3<v1);refine Sm.loop (fun out i s=>(v1,(i:Int),(([]:List Cst),(0:Int),(0:Int),(0:Int),([]:List Int),([]:List Fld),([]:List Mth)),(vp,vf,vn,vs,out,([]:List Fld),([]:List Mth)),s)) (fun out s=>((([]:List Cst),(0:Int),(0:Int),(0:Int),([]:List Int),([]:List Fld),([]:List Mth)),(vp,vf,vn,vs,out,([]:List Fld),([]:List Mth)),s)) v1.toNat g2 h7 (k':=gc7 vp vf vn vs) rfl ?_ ?_ ?_
 ·intro out i ⟨a,b,c⟩ hs;have:=hs.2.2.2.2.1 rfl;simp only at this;subst this;by_cases hi:(i:Int)<v1<;>simp only[hi,zDt,zDf,zAJ,zAI,Bool.not_true,zAH]
 ·intro l hl;have hv:=zEf e6 hl;refine⟨fun out ⟨a,b,c⟩ l hs=>?_,fun out i ⟨a,b,c⟩ l hi ho hs=>?_⟩
  ·have hi:¬((v1.toNat:Int)<v1):=by omega
   simp only[hi,zDf,zAI,zAH]
  ·have hi':(i:Int)<v1:=by omega
   have hc:=(hs.2.2.2.2.2 l rfl).1;simp only at hc;subst hc;simp only[hi',zDt,zAJ,Bool.not_false,zAC]
   have ho1:out.length+1≤9223372036854775807:=by omega
   have ho2:(out.length+1)*8≤140737488355328:=by omega
   have hwi:IntKind.wrap .i64 ((i:Int)+1)=((i+1:Nat):Int):=by rw[wI (by omega) (by omega)];omega
   show St (Re3 s0) _ (fun w s'=>Sum.inl ((v1,((i+1:Nat):Int),(([]:List Cst),(0:Int),(0:Int),(0:Int),([]:List Int),([]:List Fld),([]:List Mth)),(vp,vf,vn,vs,out++[w],([]:List Fld),([]:List Mth)),s'))) ((some l).bind g2);refine St.last (s222 _ _ hs) fun w0 ⟨a5,b5,gc5⟩=>?_
   simp only[ho1,ho2,zDt,zAt,zAD,hwi]
 ·intro out ⟨a,b,c⟩ st' hs;generalize out=fa;show Sm _ _ (st'.bind fun l=>(zBj 5 gFld l).bind fun p=>gc8 vp vf vn vs fa p.1 p.2);rw[zBS 5 gFld (gc8 vp vf vn vs fa)];refine Sm.step (s221 _ _ hs) (k':=fun n l=>if 5<n then none else(gRep gFld n.toNat l).bind fun q=>gc8 vp vf vn vs fa q.1 q.2) fun v2 ⟨a,b,c⟩ st8 h8 e8=>?_
  simp only[zCh]
  rw[show(if(5:Int)<v2 then(v2,(([]:List Cst),(0:Int),(0:Int),(0:Int),([]:List Int),([]:List Fld),([]:List Mth)),(vp,vf,vn,vs,fa,([]:List Fld),([]:List Mth)),a,b,true)else(v2,(([]:List Cst),(0:Int),(0:Int),(0:Int),([]:List Int),([]:List Fld),([]:List Mth)),(vp,vf,vn,vs,fa,([]:List Fld),([]:List Mth)),a,b,c))=(v2,(([]:List Cst),(0:Int),(0:Int),(0:Int),([]:List Int),([]:List Fld),([]:List Mth)),(vp,vf,vn,vs,fa,([]:List Fld),([]:List Mth)),a,b,if 5<v2 then true else c)by split<;>rfl];simp only
  rw[zBI];have h9:=h8.cut (5<v2);refine Sm.loop (fun out i s=>(v2,(i:Int),(([]:List Cst),(0:Int),(0:Int),(0:Int),([]:List Int),([]:List Fld),([]:List Mth)),(vp,vf,vn,vs,fa,out,([]:List Mth)),s)) (fun out s=>((([]:List Cst),(0:Int),(0:Int),(0:Int),([]:List Int),([]:List Fld),([]:List Mth)),(vp,vf,vn,vs,fa,out,([]:List Mth)),s)) v2.toNat gFld h9 (k':=gc8 vp vf vn vs fa) rfl ?_ ?_ ?_
  ·intro out i ⟨a,b,c⟩ hs;have:=hs.2.2.2.2.1 rfl;simp only at this;subst this;by_cases hi:(i:Int)<v2<;>simp only[hi,zDt,zDf,zAJ,zAI,Bool.not_true,zAH]
  ·intro l hl;have hv:=zEf e8 hl;refine⟨fun out ⟨a,b,c⟩ l hs=>?_,fun out i ⟨a,b,c⟩ l hi ho hs=>?_⟩
   ·have hi:¬((v2.toNat:Int)<v2):=by omega
    simp only[hi,zDf,zAI,zAH]
   ·have hi':(i:Int)<v2:=by omega
    have hc:=(hs.2.2.2.2.2 l rfl).1;simp only at hc;subst hc;simp only[hi',zDt,zAJ,Bool.not_false,zAC]
    have ho1:out.length+1≤9223372036854775807:=by omega
    have ho2:(out.length+1)*24≤140737488355328:=by omega
    have hwi:IntKind.wrap .i64 ((i:Int)+1)=((i+1:Nat):Int):=by rw[wI (by omega) (by omega)];omega
    show St (Re3 s0) _ (fun w s'=>Sum.inl ((v2,((i+1:Nat):Int),(([]:List Cst),(0:Int),(0:Int),(0:Int),([]:List Int),([]:List Fld),([]:List Mth)),(vp,vf,vn,vs,fa,out++[w],([]:List Mth)),s'))) ((some l).bind gFld);refine St.step (s221 _ _ hs) (k':=fun p l=>(g2 l).bind fun q=>(g2 q.2).bind fun r=>some ((p,q.1,r.1),r.2)) fun w0 ⟨a5,b5,gc5⟩ t0 g0=>?_
    refine St.step (s222 _ _ g0) (k':=fun q l=>(g2 l).bind fun r=>some ((w0,q,r.1),r.2)) fun w1 ⟨a6,b6,gc6⟩ t1 g1=>?_
    refine St.step (s222 _ _ g1) (k':=fun r l=>some ((w0,w1,r),l)) fun w2 ⟨a7,b7,gc7⟩ t2 g2=>?_
    simp only[ho1,ho2,zDt,zAt,zAD,hwi]
    exact St.ret (mk:=fun w s'=>Sum.inl ((v2,((i+1:Nat):Int),(([]:List Cst),(0:Int),(0:Int),(0:Int),([]:List Int),([]:List Fld),([]:List Mth)),(vp,vf,vn,vs,fa,out++[w],([]:List Mth)),s'))) g2 _
  ·intro out ⟨a,b,c⟩ st' hs;generalize out=fi;show Sm _ _ (st'.bind fun l=>(zBj 6 gMth l).bind fun p=>some ((vp,vf,vn,vs,fa,fi,p.1),p.2));rw[zBS 6 gMth fun p l=>some ((vp,vf,vn,vs,fa,fi,p),l)];refine Sm.step (s221 _ _ hs) (k':=fun n l=>if 6<n then none else(gRep gMth n.toNat l).bind fun q=>some ((vp,vf,vn,vs,fa,fi,q.1),q.2)) fun v3 ⟨a,b,c⟩ st10 h10 e10=>?_
   simp only[zCh]
   rw[show(if(6:Int)<v3 then(v3,(([]:List Cst),(0:Int),(0:Int),(0:Int),([]:List Int),([]:List Fld),([]:List Mth)),(vp,vf,vn,vs,fa,fi,([]:List Mth)),a,b,true)else(v3,(([]:List Cst),(0:Int),(0:Int),(0:Int),([]:List Int),([]:List Fld),([]:List Mth)),(vp,vf,vn,vs,fa,fi,([]:List Mth)),a,b,c))=(v3,(([]:List Cst),(0:Int),(0:Int),(0:Int),([]:List Int),([]:List Fld),([]:List Mth)),(vp,vf,vn,vs,fa,fi,([]:List Mth)),a,b,if 6<v3 then true else c)by split<;>rfl];simp only
   rw[zBI];have h11:=h10.cut (6<v3);refine Sm.loop (fun out i s=>(v3,(i:Int),(([]:List Cst),(0:Int),(0:Int),(0:Int),([]:List Int),([]:List Fld),([]:List Mth)),(vp,vf,vn,vs,fa,fi,out),s)) (fun out s=>((([]:List Cst),(0:Int),(0:Int),(0:Int),([]:List Int),([]:List Fld),([]:List Mth)),(vp,vf,vn,vs,fa,fi,out),s)) v3.toNat gMth h11 (k':=fun p l=>some ((vp,vf,vn,vs,fa,fi,p),l)) rfl ?_ ?_ ?_
   ·intro out i ⟨a,b,c⟩ hs;have:=hs.2.2.2.2.1 rfl;simp only at this;subst this;by_cases hi:(i:Int)<v3<;>simp only[hi,zDt,zDf,zAJ,zAI,Bool.not_true,zAH]
   ·intro l hl;have hv:=zEf e10 hl;refine⟨fun out ⟨a,b,c⟩ l hs=>?_,fun out i ⟨a,b,c⟩ l hi ho hs=>?_⟩
    ·have hi:¬((v3.toNat:Int)<v3):=by omega
     simp only[hi,zDf,zAI,zAH]
    ·have hi':(i:Int)<v3:=by omega
     have hc:=(hs.2.2.2.2.2 l rfl).1;simp only at hc;subst hc;simp only[hi',zDt,zAJ,Bool.not_false,zAC]
     have ho1:out.length+1≤9223372036854775807:=by omega
     have ho2:(out.length+1)*104≤140737488355328:=by omega
     have hwi:IntKind.wrap .i64 ((i:Int)+1)=((i+1:Nat):Int):=by rw[wI (by omega) (by omega)];omega
     show St (Re3 s0) _ (fun w s'=>Sum.inl ((v3,((i+1:Nat):Int),(([]:List Cst),(0:Int),(0:Int),(0:Int),([]:List Int),([]:List Fld),([]:List Mth)),(vp,vf,vn,vs,fa,fi,out++[w]),s'))) ((some l).bind gMth);refine St.last (s223 _ _ hs) fun w0 ⟨a5,b5,gc5⟩=>?_
     simp only[ho1,ho2,zDt,zAt,zAD,hwi]
   ·intro out ⟨a,b,c⟩ st' hs;exact Sm.ret hs _
end Go.Proofs.YtdpapeledldifaaGreat
end
section
namespace Go.TM
open Go.AM
section
variable {σ α β R Y Z:Type}
def zFl {γ:Type}(most v:Int)(st:Option (List UInt8))(M:Int→List UInt8→Option γ):((if most<v then none else st).bind fun l=>M v l)=(if most<v then none else st).bind fun l=>M (if most<v then 0 else v) l:=by
 by_cases h:most<v<;>simp[h]
def zIW (most v:Int){st:Option (List UInt8)}(l:List UInt8)(h:(if most<v then none else st)=some l):(if most<v then 0 else v)=v:=by
 by_cases h':most<v
 ·rw[if_pos h']at h;cases h
 ·rw[if_neg h']
variable {Re:σ→Option (List UInt8)→Prop}
def Gn.step {Φ:Option Z→Option (β×List UInt8)→Prop}{F:Option (α×σ)}{g:List UInt8→Option (α×List UInt8)}{st:Option (List UInt8)}{k:α×σ→Option Z}{k':α→List UInt8→Option (β×List UInt8)}
  (hF:Sm Re F (st.bind g)) (hk:∀v s' st',Re s' st'→(∀l',st'=some l'→∃l,st=some l∧g l=some (v,l'))→Φ (k (v,s')) (st'.bind (k' v))) :
  Φ (zAA F k) (st.bind fun l=>(g l).bind fun p=>k' p.1 p.2):=by
 have e:(st.bind fun l=>(g l).bind fun p=>k' p.1 p.2)=(st.bind g).bind fun p=>k' p.1 p.2:=by cases st<;>rfl
 rw[e];obtain⟨v,s,hr,h1,h2⟩:=hF;rw[hr,zAB]
 have:=hk v s _ h1 fun l' hl=>by
  cases st with
  |none=>cases hl
  | some l=>
    refine⟨l,rfl,?_⟩;cases hg:g l with
    |none=>simp[hg]at hl
    | some p=>
      simp only[zOb,hg,Option.map_some,zSe]at hl;subst hl;rw[h2 p.1 p.2 (by simp[hg])]
 cases hm:st.bind g with
 |none=>rw[hm]at this;exact this
 | some p=>
   rw[hm]at this h2;have e:=h2 p.1 p.2 rfl;subst e;exact this
def Gn.loop {Φ:Option Z→Option (α×List UInt8)→Prop}{X Y:Type}{f:X→Option (X⊕(Y⊕Z))}(mk:List β→Nat→σ→X)(fin:List β→σ→Y)(n:Nat)(g:List UInt8→Option (β×List UInt8)){s:σ}{st:Option (List UInt8)}(h:Re s st)
  {k:Y→Option Z} {k':List β→List UInt8→Option (α×List UInt8)} {x0:X} (hx:x0=mk [] 0 s)
  (hbad:∀out i s,Re s none→f (mk out i s)=some (.inr (.inl (fin out s))))
  (hg:∀l,st=some l→(∀out s l,Re s (some l)→f (mk out n s)=some (.inr (.inl (fin out s)))) ∧
   ∀out i s l,i<n→out.length=i→Re s (some l)→∃v s',f (mk out i s)=some (.inl (mk (out++[v]) (i+1) s'))∧Re s' ((g l).map (·.2))∧∀v' l',g l=some (v',l')→v=v')
  (hk:∀out s' st',Re s' st'→Φ (k (fin out s')) (st'.bind (k' out))) :
  Φ (bindE (zAE f x0) k) (st.bind fun l=>(gRep g n l).bind fun p=>k' p.1 p.2):=by
 obtain⟨o,s',q1,q2,q3⟩:=zLI mk (fun out s=>(.inl (fin out s):Y⊕Z)) n g s st h hbad hg;rw[hx,q1,zAC];have:=hk o s' _ q2;have e:(st.bind fun l=>(gRep g n l).bind fun p=>k' p.1 p.2)=(st.bind (gRep g n)).bind fun p=>k' p.1 p.2:=by cases st<;>rfl
 rw[e];cases hm:st.bind (gRep g n)with
 |none=>rw[hm]at this;exact this
 | some p=>
   rw[hm]at this;rw[q3 p.1 p.2 hm]at this ⊢;exact this
end
end Go.TM
namespace Go.Proofs.YtdpapeledldifaaGreat
open Go Go.AM Go.TM
def Re2.cut {a:List UInt8}{t:Bool}{st:Option (List UInt8)}(c:Prop)[Decidable c](h:Re2 (a,t) st):Re2 (a,if c then true else t) (if c then none else st):=by
 by_cases hc:c
 ·simp only[if_pos hc];exact h.bad
 ·simp only[if_neg hc];exact h
def i58 (n most:Int)(a:List UInt8)(c:Bool):F58 (n,most,a,c)=some ((if most<n then 0 else n),a,if most<n then true else c):=by
 simp only[F58,zAG]
 by_cases h:most<n<;>simp[h]
def i141 (s:List UInt8×Bool)(st:Option (List UInt8))(h:Re2 s st):Sm Re2 (F141 s) (st.bind (zBj 8 gKnd)):=by
 obtain⟨o0,o1⟩:=s;simp only[F141]
 rw[←zTO (zBj 8 gKnd),zBS 8 gKnd fun p l=>some (p,l)];refine Sm.step (i59 _ st h) (k':=fun n l=>if 8<n then none else(gRep gKnd n.toNat l).bind fun q=>some (q.1,q.2)) fun v ⟨a,c⟩ st1 h1 e1=>?_
 rw[zBI];rw[i58 v 8 a c,zAB];simp only
 rw[zFl 8 v st1 fun v l=>(gRep gKnd v.toNat l).bind fun q=>some (q.1,q.2)];have h2:=h1.cut (8<v);have zv':∀l,(if 8<v then none else st1)=some l→(if 8<v then 0 else v)=v:=fun l=>zIW 8 v l
 generalize (if 8<v then 0 else v)=v' at zv' ⊢;refine Sm.loop (fun out i s=>(out,v'-(i:Int),s)) (fun out s=>(out,s)) v'.toNat gKnd h2 (k':=fun p l=>some (p,l)) (by simp) ?_ ?_ ?_
 ·intro out i ⟨a,c⟩ hs;have:=hs.2.1 rfl;simp only at this;subst this;by_cases hi:(0:Int)<v'-(i:Int)<;>simp only[hi,zDt,zDf,zAJ,zAI,Bool.not_true,zAH]
 ·intro l hl;have hv:=zEf e1 hl;have hz:=zv' l hl;refine⟨fun out ⟨a,c⟩ l hs=>?_,fun out i ⟨a,c⟩ l hi ho hs=>?_⟩
  ·have hi:¬((0:Int)<v'-(v'.toNat:Int)):=by omega
   simp only[hi,zDf,zAI,zAH]
  ·have hi':(0:Int)<v'-(i:Int):=by omega
   have hw:IntKind.wrap .i64 (v'-(i:Int)-1)=v'-((i+1:Nat):Int):=by rw[wI (by omega) (by omega)];omega
   have hc:=(hs.2.2 l rfl).1;simp only at hc;subst hc;simp only[hi',zDt,zAJ,Bool.not_false,zAC]
   have hk:Sm Re2 (zAA (F59 (a,false)) fun x=>match x with
     | (y4,y5,y7)=>zAA (F58 (y4,3,y5,y7)) fun x=>match x with
       |(z4,z5,z7)=>cndO (decide (z4=3)) (zAA (F61 (z5,z7)) fun x=>match x with|(y8,y9,y11)=>some ((z4,y8),y9,y11)) (some ((z4,0),z5,z7))) ((some l).bind gKnd):=by
    refine Sm.step (i59 _ _ hs) (k':=fun p l=>if p=3 then(g2 l).bind fun q=>some ((3,q.1),q.2)else if 3<p then none else some ((p,0),l)) fun w ⟨a2,gc2⟩ st2 h2 e2=>?_
    simp only[i58,zAG]
    by_cases hw:w=3
    ·subst hw;simp only[↓reduceIte,zAB,zIl]
     exact Sm.step (i61 _ st2 h2) (k':=fun q l=>some ((3,q),l)) fun n ⟨a3,gc3⟩ st3 h3 e3=>Sm.ret h3 _
    ·simp only[hw,↓reduceIte]
     rw[zBI];by_cases h3:3<w
     ·simp only[h3,↓reduceIte,zAB,show ¬((0:Int)=3)by omega]
      exact⟨_,_,rfl,h2.bad,fun _ _ h=>by cases h⟩
     ·simp only[h3,hw,↓reduceIte,zAB]
      exact Sm.ret h2 _
   refine hk.one (mk:=fun w s=>(out++[w],v'-((i+1:Nat):Int),s)) fun w s' hr=>?_
   have ho1:out.length+1≤9223372036854775807:=by omega
   have ho2:(out.length+1)*16≤140737488355328:=by omega
   rcases h221:F59 (a,false)with _|⟨y4,y5,y7⟩
   ·rw[h221]at hr;cases hr
   ·rw[h221]at hr;simp only[zAB]at hr ⊢;rcases h58:F58 (y4,3,y5,y7)with _|⟨z4,z5,z7⟩
    ·rw[h58]at hr;cases hr
    ·rw[h58]at hr;simp only[zAB,zAG,zAs]at hr ⊢;by_cases hy:z4=3
     ·subst hy;simp only[↓reduceIte,zBD]at hr ⊢;rcases h222:F61 (z5,z7)with _|⟨y8,y9,y11⟩
      ·rw[h222]at hr;cases hr
      ·rw[h222]at hr;simp only[zAB,zSe,zPi]at hr ⊢;obtain⟨rfl,rfl⟩:=hr;simp only[ho1,ho2,zDt,zAt,zAD,zAC,hw]
     ·simp only[hy,↓reduceIte]at hr ⊢;simp only[zSe,zPi]at hr ⊢;obtain⟨rfl,rfl⟩:=hr;simp only[ho1,ho2,zDt,zAt,zAD,zAC,hw]
 ·intro out ⟨a,c⟩ st' hs;exact Sm.ret hs _
def zXw (n:Fin 256):(!decide (andI .i64 (n.val:Int) 8=0))=decide (zFg (n.val:Int)):=by
 revert n;decide +kernel
def i62 (s:List UInt8×Bool)(st:Option (List UInt8))(h:Re2 s st):Sm Re2 (F62 s) (st.bind gMth):=by
 obtain⟨o0,o1⟩:=s;simp only[F62]
 refine Sm.step (i59 _ st h) (k':=m1) fun vf ⟨a,c⟩ st1 h1 e1=>?_
 refine Sm.step (i61 _ st1 h1) (k':=m2 vf) fun vn ⟨a,c⟩ st2 h2 e2=>?_
 refine Sm.step (i61 _ st2 h2) (k':=m3 vf vn) fun vd ⟨a,c⟩ st3 h3 e3=>?_
 have hab:∀l,st3=some l→(!decide (andI .i64 vf 8=0))=decide (zFg vf):=by
  intro l hl;obtain⟨l2,q2,_⟩:=e3 l hl;obtain⟨l1,q1,_⟩:=e2 l2 q2;obtain⟨_,_,hg⟩:=e1 l1 q1;have:=zDj hg;have:=zXw ⟨vf.toNat,by omega⟩;simpa[show((vf.toNat:Nat):Int)=vf by omega]using this
 simp only[F86,zAB]
 cases hy:(!decide (andI .i64 vf 8=0))with
 | true=>
   rw[hy]at hab;simp only[zAJ]
   have e:st3.bind (m3 vf vn vd)=st3.bind fun l=>some ((vf,vn,vd,0,0,[],[],[]),l):=by
    cases st3 with
    |none=>rfl
    |some l=>have:=hab l rfl;have:zFg vf:=by simpa using this.symm
             simp only[zOb,m3,if_pos this]
   rw[e];exact Sm.ret h3 _
 |false=>
 rw[hy]at hab;simp only[zAI]
 have e:st3.bind (m3 vf vn vd)=st3.bind (zUq vf vn vd):=by
  cases st3 with
  |none=>rfl
  |some l=>have:=hab l rfl;have:¬zFg vf:=by simpa using this.symm
           simp only[zOb,m3,if_neg this]
 rw[e];clear hab e;refine Sm.step (i59 _ st3 h3) (k':=b3 vf vn vd) fun vs ⟨a,c⟩ st1 h1 e1=>?_
 refine Sm.step (i59 _ st1 h1) (k':=b4 vf vn vd vs) fun vl ⟨a,c⟩ st2 h2 e2=>?_
 refine Sm.step (i61 _ st2 h2) (k':=b5 vf vn vd vs vl) fun v ⟨a,c⟩ st3 h3 e3=>?_
 show Sm _ _ (st3.bind fun l=>if 120<v then none else(gT v l).bind fun p=>b6 vf vn vd vs vl p.1 p.2);rw[zBI];rw[i58 v 120 a c,zAB];simp only
 rw[zFl 120 v st3 fun v l=>(gT v l).bind fun p=>b6 vf vn vd vs vl p.1 p.2];have h4:=h3.cut (120<v);have zv':∀l,(if 120<v then none else st3)=some l→(if 120<v then 0 else v)=v:=fun l=>zIW 120 v l
 generalize (if 120<v then 0 else v)=v' at zv' ⊢;refine Sm.step (i57 v' _ _ h4 fun l hl=>?_) (k':=b6 vf vn vd vs vl) fun vc ⟨a,c⟩ st4 h5 e4=>?_
 ·rw[zv' l hl];split at hl
  ·cases hl
  ·obtain⟨_,_,hg⟩:=e3 l hl;exact(zXM hg).1
 show Sm _ _ (st4.bind fun l=>(zBj 3 gTrp l).bind fun p=>b7 vf vn vd vs vl vc p.1 p.2);rw[zBS 3 gTrp (b7 vf vn vd vs vl vc)];refine Sm.step (i59 _ st4 h5) (k':=fun n l=>if 3<n then none else(gRep gTrp n.toNat l).bind fun q=>b7 vf vn vd vs vl vc q.1 q.2) fun v2 ⟨a,c⟩ st5 h6 e5=>?_
 rw[zBI];rw[i58 v2 3 a c,zAB];simp only
 rw[zFl 3 v2 st5 fun v l=>(gRep gTrp v.toNat l).bind fun q=>b7 vf vn vd vs vl vc q.1 q.2];have h7:=h6.cut (3<v2);have zv2':∀l,(if 3<v2 then none else st5)=some l→(if 3<v2 then 0 else v2)=v2:=fun l=>zIW 3 v2 l
 generalize (if 3<v2 then 0 else v2)=v2' at zv2' ⊢;refine Sm.loop (fun out i s=>(v2'-(i:Int),((0:Int),(0:Int),(0:Int),(0:Int),(0:Int),([]:List UInt8),([]:List Trp),([]:List Frm)),(vf,vn,vd,vs,vl,vc,out,([]:List Frm)),s)) (fun out s=>(((0:Int),(0:Int),(0:Int),(0:Int),(0:Int),([]:List UInt8),([]:List Trp),([]:List Frm)),(vf,vn,vd,vs,vl,vc,out,([]:List Frm)),s)) v2'.toNat gTrp h7 (k':=b7 vf vn vd vs vl vc) (by simp) ?_ ?_ ?_
 ·intro out i ⟨a,c⟩ hs;have:=hs.2.1 rfl;simp only at this;subst this;by_cases hi:(0:Int)<v2'-(i:Int)<;>simp only[hi,zDt,zDf,zAJ,zAI,Bool.not_true,zAH]
 ·intro l hl;have hv:=zEf e5 hl;have hz:=zv2' l hl;refine⟨fun out ⟨a,c⟩ l hs=>?_,fun out i ⟨a,c⟩ l hi ho hs=>?_⟩
  ·have hi:¬((0:Int)<v2'-(v2'.toNat:Int)):=by omega
   simp only[hi,zDf,zAI,zAH]
  ·have hi':(0:Int)<v2'-(i:Int):=by omega
   have hw:IntKind.wrap .i64 (v2'-(i:Int)-1)=v2'-((i+1:Nat):Int):=by rw[wI (by omega) (by omega)];omega
   have hc:=(hs.2.2 l rfl).1;simp only at hc;subst hc;simp only[hi',zDt,zAJ,Bool.not_false,zAC]
   have ho1:out.length+1≤9223372036854775807:=by omega
   have ho2:(out.length+1)*32≤140737488355328:=by omega
   show St Re2 _ (fun w s'=>Sum.inl ((v2'-((i+1:Nat):Int),((0:Int),(0:Int),(0:Int),(0:Int),(0:Int),([]:List UInt8),([]:List Trp),([]:List Frm)),(vf,vn,vd,vs,vl,vc,out++[w],([]:List Frm)),s'))) ((some l).bind gTrp);refine St.step (i61 _ _ hs) (k':=fun p l=>(g2 l).bind fun q=>(g2 q.2).bind fun r=>(g2 r.2).bind fun s=>some ((p,q.1,r.1,s.1),s.2)) fun w0 ⟨a5,gc5⟩ t0 g0=>?_
   refine St.step (i61 _ _ g0) (k':=fun q l=>(g2 l).bind fun r=>(g2 r.2).bind fun s=>some ((w0,q,r.1,s.1),s.2)) fun w1 ⟨a6,gc6⟩ t1 g1=>?_
   refine St.step (i61 _ _ g1) (k':=fun r l=>(g2 l).bind fun s=>some ((w0,w1,r,s.1),s.2)) fun w2 ⟨a7,gc7⟩ t2 g2=>?_
   refine St.step (i61 _ _ g2) (k':=fun s l=>some ((w0,w1,w2,s),l)) fun w3 ⟨a8,gc8⟩ t3 g3=>?_
   simp only[ho1,ho2,zDt,zAt,zAD,hw]
   exact St.ret (mk:=fun w s'=>Sum.inl ((v2'-((i+1:Nat):Int),((0:Int),(0:Int),(0:Int),(0:Int),(0:Int),([]:List UInt8),([]:List Trp),([]:List Frm)),(vf,vn,vd,vs,vl,vc,out++[w],([]:List Frm)),s'))) g3 _
 ·intro out ⟨a,c⟩ st' hs;generalize out=tr;show Sm _ _ (st'.bind fun l=>(zBj 8 gFrm l).bind fun p=>some ((vf,vn,vd,vs,vl,vc,tr,p.1),p.2));rw[zBS 8 gFrm fun p l=>some ((vf,vn,vd,vs,vl,vc,tr,p),l)];refine Sm.step (i59 _ _ hs) (k':=fun n l=>if 8<n then none else(gRep gFrm n.toNat l).bind fun q=>some ((vf,vn,vd,vs,vl,vc,tr,q.1),q.2)) fun v3 ⟨a,c⟩ st6 h8 e6=>?_
  rw[zBI];rw[i58 v3 8 a c,zAB];simp only
  rw[zFl 8 v3 st6 fun v l=>(gRep gFrm v.toNat l).bind fun q=>some ((vf,vn,vd,vs,vl,vc,tr,q.1),q.2)];have h9:=h8.cut (8<v3);have zv3':∀l,(if 8<v3 then none else st6)=some l→(if 8<v3 then 0 else v3)=v3:=fun l=>zIW 8 v3 l
  generalize (if 8<v3 then 0 else v3)=v3' at zv3' ⊢;refine Sm.loop (fun out i s=>(v3'-(i:Int),((0:Int),(0:Int),(0:Int),(0:Int),(0:Int),([]:List UInt8),([]:List Trp),([]:List Frm)),(vf,vn,vd,vs,vl,vc,tr,out),s)) (fun out s=>(((0:Int),(0:Int),(0:Int),(0:Int),(0:Int),([]:List UInt8),([]:List Trp),([]:List Frm)),(vf,vn,vd,vs,vl,vc,tr,out),s)) v3'.toNat gFrm h9 (k':=fun p l=>some ((vf,vn,vd,vs,vl,vc,tr,p),l)) (by simp) ?_ ?_ ?_
  ·intro out i ⟨a,c⟩ hs;have:=hs.2.1 rfl;simp only at this;subst this;by_cases hi:(0:Int)<v3'-(i:Int)<;>simp only[hi,zDt,zDf,zAJ,zAI,Bool.not_true,zAH]
  ·intro l hl;have hv:=zEf e6 hl;have hz:=zv3' l hl;refine⟨fun out ⟨a,c⟩ l hs=>?_,fun out i ⟨a,c⟩ l hi ho hs=>?_⟩
   ·have hi:¬((0:Int)<v3'-(v3'.toNat:Int)):=by omega
    simp only[hi,zDf,zAI,zAH]
   ·have hi':(0:Int)<v3'-(i:Int):=by omega
    have hw:IntKind.wrap .i64 (v3'-(i:Int)-1)=v3'-((i+1:Nat):Int):=by rw[wI (by omega) (by omega)];omega
    have hc:=(hs.2.2 l rfl).1;simp only at hc;subst hc;simp only[hi',zDt,zAJ,Bool.not_false,zAC]
    have ho1:out.length+1≤9223372036854775807:=by omega
    have ho2:(out.length+1)*56≤140737488355328:=by omega
    show St Re2 _ (fun w s'=>Sum.inl ((v3'-((i+1:Nat):Int),((0:Int),(0:Int),(0:Int),(0:Int),(0:Int),([]:List UInt8),([]:List Trp),([]:List Frm)),(vf,vn,vd,vs,vl,vc,tr,out++[w]),s'))) ((some l).bind gFrm);refine St.step (i61 _ _ hs) (k':=fun p l=>(zBj 8 gKnd l).bind fun q=>(zBj 8 gKnd q.2).bind fun r=>some ((p,q.1,r.1),r.2)) fun w0 ⟨a5,gc5⟩ t0 g0=>?_
    refine St.step (i141 _ _ g0) (k':=fun q l=>(zBj 8 gKnd l).bind fun r=>some ((w0,q,r.1),r.2)) fun w1 ⟨a6,gc6⟩ t1 g1=>?_
    refine St.step (i141 _ _ g1) (k':=fun r l=>some ((w0,w1,r),l)) fun w2 ⟨a7,gc7⟩ t2 g2=>?_
    simp only[ho1,ho2,zDt,zAt,zAD,hw]
    exact St.ret (mk:=fun w s'=>Sum.inl ((v3'-((i+1:Nat):Int),((0:Int),(0:Int),(0:Int),(0:Int),(0:Int),([]:List UInt8),([]:List Trp),([]:List Frm)),(vf,vn,vd,vs,vl,vc,tr,out++[w]),s'))) g2 _
  ·intro out ⟨a,c⟩ st' hs;exact Sm.ret hs _
def zEz (q:Option (Bool×Cls))(m:Option (Cls×List UInt8)):Prop:=q=some (match m with
 |some (c,[])=>(true,c)
 |_=>(false,(([]:List Cst),(0:Int),(0:Int),(0:Int),([]:List Int),([]:List Fld),([]:List Mth))))
def i17 (l:List UInt8)(hl:l.length≤900):zEz (F17 l) (gCls l):=by
 have h:Re2 (l,false) (some l):=⟨hl,(fun h=>by cases h),fun l' h=>⟨rfl,by simp only[zSe]at h;exact h.symm⟩⟩
 have hn:¬(900:Int)<(l.length:Int):=by omega
 simp only[F17,hn,zDf,zAI]
 show zEz _ ((some l).bind gCls);refine Gn.step (Φ:=zEz) (i57 4 _ _ h fun _ _=>by omega) (k':=gc1) fun vt ⟨a,c⟩ st1 h1 e1=>?_
 simp only
 rw[zAU,zAG];by_cases hvt:vt=[83,84,79,87]
 ·rw[if_pos hvt];have e:gc1 vt=gc2:=by funext l;simp only[gc1,hvt,not_true,if_false]
  rw[e];show zEz _ (st1.bind fun l=>(zBj 60 zCj l).bind fun p=>gc3 p.1 p.2);rw[zBS 60 zCj gc3];refine Gn.step (Φ:=zEz) (i59 _ st1 h1) (k':=fun n l=>if 60<n then none else(gRep zCj n.toNat l).bind fun q=>gc3 q.1 q.2) fun v0 ⟨a,c⟩ st2 h2 e2=>?_
  rw[zBI];rw[i58 v0 60 a c,zAB];simp only
  rw[zFl 60 v0 st2 fun v l=>(gRep zCj v.toNat l).bind fun q=>gc3 q.1 q.2];have h3:=h2.cut (60<v0);have zv0':∀l,(if 60<v0 then none else st2)=some l→(if 60<v0 then 0 else v0)=v0:=fun l=>zIW 60 v0 l
  generalize (if 60<v0 then 0 else v0)=v0' at zv0' ⊢;refine Gn.loop (Φ:=zEz) (fun out i s=>(v0'-(i:Int),(([]:List Cst),(0:Int),(0:Int),(0:Int),([]:List Int),([]:List Fld),([]:List Mth)),(out,(0:Int),(0:Int),(0:Int),([]:List Int),([]:List Fld),([]:List Mth)),s)) (fun out s=>((([]:List Cst),(0:Int),(0:Int),(0:Int),([]:List Int),([]:List Fld),([]:List Mth)),(out,(0:Int),(0:Int),(0:Int),([]:List Int),([]:List Fld),([]:List Mth)),s)) v0'.toNat zCj h3 (k':=gc3) (by simp) ?_ ?_ ?_
  ·intro out i ⟨a,c⟩ hs;have:=hs.2.1 rfl;simp only at this;subst this;by_cases hi:(0:Int)<v0'-(i:Int)<;>simp only[hi,zDt,zDf,zAJ,zAI,Bool.not_true,zAH]
  ·intro l hl;have hv:=zEf e2 hl;have hz:=zv0' l hl;refine⟨fun out ⟨a,c⟩ l hs=>?_,fun out i ⟨a,c⟩ l hi ho hs=>?_⟩
   ·have hi:¬((0:Int)<v0'-(v0'.toNat:Int)):=by omega
    simp only[hi,zDf,zAI,zAH]
   ·have hi':(0:Int)<v0'-(i:Int):=by omega
    have hw:IntKind.wrap .i64 (v0'-(i:Int)-1)=v0'-((i+1:Nat):Int):=by rw[wI (by omega) (by omega)];omega
    have hc:=(hs.2.2 l rfl).1;simp only at hc;subst hc;simp only[hi',zDt,zAJ,Bool.not_false,zAC]
    have ho1:out.length+1≤9223372036854775807:=by omega
    have ho2:(out.length+1)*40≤140737488355328:=by omega
    show St Re2 _ (fun w s'=>Sum.inl ((v0'-((i+1:Nat):Int),(([]:List Cst),(0:Int),(0:Int),(0:Int),([]:List Int),([]:List Fld),([]:List Mth)),(out++[w],(0:Int),(0:Int),(0:Int),([]:List Int),([]:List Fld),([]:List Mth)),s'))) ((some l).bind zCj);refine St.last (i60 _ _ hs) fun w0 ⟨a5,gc5⟩=>?_
    simp only[ho1,ho2,zDt,zAt,zAD,hw]
  ·intro out ⟨a,c⟩ st' hs;generalize out=vp;refine Gn.step (Φ:=zEz) (i59 _ _ hs) (k':=gc4 vp) fun vf ⟨a,c⟩ st3 h4 e3=>?_
   refine Gn.step (Φ:=zEz) (i61 _ _ h4) (k':=gc5 vp vf) fun vn ⟨a,c⟩ st4 h5 e4=>?_
   refine Gn.step (Φ:=zEz) (i61 _ _ h5) (k':=gc6' vp vf vn) fun vs ⟨a,c⟩ st5 h6 e5=>?_
   show zEz _ (st5.bind fun l=>(zBj 3 g2 l).bind fun p=>gc7 vp vf vn vs p.1 p.2);rw[zBS 3 g2 (gc7 vp vf vn vs)];refine Gn.step (Φ:=zEz) (i59 _ _ h6) (k':=fun n l=>if 3<n then none else(gRep g2 n.toNat l).bind fun q=>gc7 vp vf vn vs q.1 q.2) fun v1 ⟨a,c⟩ st6 h7 e6=>?_
   rw[zBI];rw[i58 v1 3 a c,zAB];simp only
   rw[zFl 3 v1 st6 fun v l=>(gRep g2 v.toNat l).bind fun q=>gc7 vp vf vn vs q.1 q.2];have h8:=h7.cut (3<v1);have zv1':∀l,(if 3<v1 then none else st6)=some l→(if 3<v1 then 0 else v1)=v1:=fun l=>zIW 3 v1 l
   generalize (if 3<v1 then 0 else v1)=v1' at zv1' ⊢;refine Gn.loop (Φ:=zEz) (fun out i s=>(v1'-(i:Int),(([]:List Cst),(0:Int),(0:Int),(0:Int),([]:List Int),([]:List Fld),([]:List Mth)),(vp,vf,vn,vs,out,([]:List Fld),([]:List Mth)),s)) (fun out s=>((([]:List Cst),(0:Int),(0:Int),(0:Int),([]:List Int),([]:List Fld),([]:List Mth)),(vp,vf,vn,vs,out,([]:List Fld),([]:List Mth)),s)) v1'.toNat g2 h8 (k':=gc7 vp vf vn vs) (by simp) ?_ ?_ ?_
   ·intro out i ⟨a,c⟩ hs;have:=hs.2.1 rfl;simp only at this;subst this;by_cases hi:(0:Int)<v1'-(i:Int)<;>simp only[hi,zDt,zDf,zAJ,zAI,Bool.not_true,zAH]
   ·intro l hl;have hv:=zEf e6 hl;have hz:=zv1' l hl;refine⟨fun out ⟨a,c⟩ l hs=>?_,fun out i ⟨a,c⟩ l hi ho hs=>?_⟩
    ·have hi:¬((0:Int)<v1'-(v1'.toNat:Int)):=by omega
     simp only[hi,zDf,zAI,zAH]
    ·have hi':(0:Int)<v1'-(i:Int):=by omega
     have hw:IntKind.wrap .i64 (v1'-(i:Int)-1)=v1'-((i+1:Nat):Int):=by rw[wI (by omega) (by omega)];omega
     have hc:=(hs.2.2 l rfl).1;simp only at hc;subst hc;simp only[hi',zDt,zAJ,Bool.not_false,zAC]
     have ho1:out.length+1≤9223372036854775807:=by omega
     have ho2:(out.length+1)*8≤140737488355328:=by omega
     show St Re2 _ (fun w s'=>Sum.inl ((v1'-((i+1:Nat):Int),(([]:List Cst),(0:Int),(0:Int),(0:Int),([]:List Int),([]:List Fld),([]:List Mth)),(vp,vf,vn,vs,out++[w],([]:List Fld),([]:List Mth)),s'))) ((some l).bind g2);refine St.last (i61 _ _ hs) fun w0 ⟨a5,gc5⟩=>?_
     simp only[ho1,ho2,zDt,zAt,zAD,hw]
   ·intro out ⟨a,c⟩ st' hs;generalize out=fa;show zEz _ (st'.bind fun l=>(zBj 5 gFld l).bind fun p=>gc8 vp vf vn vs fa p.1 p.2);rw[zBS 5 gFld (gc8 vp vf vn vs fa)];refine Gn.step (Φ:=zEz) (i59 _ _ hs) (k':=fun n l=>if 5<n then none else(gRep gFld n.toNat l).bind fun q=>gc8 vp vf vn vs fa q.1 q.2) fun v2 ⟨a,c⟩ st8 h9 e8=>?_
    rw[zBI];rw[i58 v2 5 a c,zAB];simp only
    rw[zFl 5 v2 st8 fun v l=>(gRep gFld v.toNat l).bind fun q=>gc8 vp vf vn vs fa q.1 q.2];have h10:=h9.cut (5<v2);have zv2':∀l,(if 5<v2 then none else st8)=some l→(if 5<v2 then 0 else v2)=v2:=fun l=>zIW 5 v2 l
    generalize (if 5<v2 then 0 else v2)=v2' at zv2' ⊢;refine Gn.loop (Φ:=zEz) (fun out i s=>(v2'-(i:Int),(([]:List Cst),(0:Int),(0:Int),(0:Int),([]:List Int),([]:List Fld),([]:List Mth)),(vp,vf,vn,vs,fa,out,([]:List Mth)),s)) (fun out s=>((([]:List Cst),(0:Int),(0:Int),(0:Int),([]:List Int),([]:List Fld),([]:List Mth)),(vp,vf,vn,vs,fa,out,([]:List Mth)),s)) v2'.toNat gFld h10 (k':=gc8 vp vf vn vs fa) (by simp) ?_ ?_ ?_
    ·intro out i ⟨a,c⟩ hs;have:=hs.2.1 rfl;simp only at this;subst this;by_cases hi:(0:Int)<v2'-(i:Int)<;>simp only[hi,zDt,zDf,zAJ,zAI,Bool.not_true,zAH]
    ·intro l hl;have hv:=zEf e8 hl;have hz:=zv2' l hl;refine⟨fun out ⟨a,c⟩ l hs=>?_,fun out i ⟨a,c⟩ l hi ho hs=>?_⟩
     ·have hi:¬((0:Int)<v2'-(v2'.toNat:Int)):=by omega
      simp only[hi,zDf,zAI,zAH]
     ·have hi':(0:Int)<v2'-(i:Int):=by omega
      have hw:IntKind.wrap .i64 (v2'-(i:Int)-1)=v2'-((i+1:Nat):Int):=by rw[wI (by omega) (by omega)];omega
      have hc:=(hs.2.2 l rfl).1;simp only at hc;subst hc;simp only[hi',zDt,zAJ,Bool.not_false,zAC]
      have ho1:out.length+1≤9223372036854775807:=by omega
      have ho2:(out.length+1)*24≤140737488355328:=by omega
      show St Re2 _ (fun w s'=>Sum.inl ((v2'-((i+1:Nat):Int),(([]:List Cst),(0:Int),(0:Int),(0:Int),([]:List Int),([]:List Fld),([]:List Mth)),(vp,vf,vn,vs,fa,out++[w],([]:List Mth)),s'))) ((some l).bind gFld);refine St.step (i59 _ _ hs) (k':=fun p l=>(g2 l).bind fun q=>(g2 q.2).bind fun r=>some ((p,q.1,r.1),r.2)) fun w0 ⟨a5,gc5⟩ t0 g0=>?_
      refine St.step (i61 _ _ g0) (k':=fun q l=>(g2 l).bind fun r=>some ((w0,q,r.1),r.2)) fun w1 ⟨a6,gc6⟩ t1 g1=>?_
      refine St.step (i61 _ _ g1) (k':=fun r l=>some ((w0,w1,r),l)) fun w2 ⟨a7,gc7⟩ t2 g2=>?_
      simp only[ho1,ho2,zDt,zAt,zAD,hw]
      exact St.ret (mk:=fun w s'=>Sum.inl ((v2'-((i+1:Nat):Int),(([]:List Cst),(0:Int),(0:Int),(0:Int),([]:List Int),([]:List Fld),([]:List Mth)),(vp,vf,vn,vs,fa,out++[w],([]:List Mth)),s'))) g2 _
    ·intro out ⟨a,c⟩ st' hs;generalize out=fi;show zEz _ (st'.bind fun l=>(zBj 6 gMth l).bind fun p=>some ((vp,vf,vn,vs,fa,fi,p.1),p.2));rw[zBS 6 gMth fun p l=>some ((vp,vf,vn,vs,fa,fi,p),l)];refine Gn.step (Φ:=zEz) (i59 _ _ hs) (k':=fun n l=>if 6<n then none else(gRep gMth n.toNat l).bind fun q=>some ((vp,vf,vn,vs,fa,fi,q.1),q.2)) fun v3 ⟨a,c⟩ st9 h11 e9=>?_
     rw[zBI];rw[i58 v3 6 a c,zAB];simp only
     rw[zFl 6 v3 st9 fun v l=>(gRep gMth v.toNat l).bind fun q=>some ((vp,vf,vn,vs,fa,fi,q.1),q.2)];have h12:=h11.cut (6<v3);have zv3':∀l,(if 6<v3 then none else st9)=some l→(if 6<v3 then 0 else v3)=v3:=fun l=>zIW 6 v3 l
     generalize (if 6<v3 then 0 else v3)=v3' at zv3' ⊢;refine Gn.loop (Φ:=zEz) (fun out i s=>(v3'-(i:Int),(([]:List Cst),(0:Int),(0:Int),(0:Int),([]:List Int),([]:List Fld),([]:List Mth)),(vp,vf,vn,vs,fa,fi,out),s)) (fun out s=>((([]:List Cst),(0:Int),(0:Int),(0:Int),([]:List Int),([]:List Fld),([]:List Mth)),(vp,vf,vn,vs,fa,fi,out),s)) v3'.toNat gMth h12 (k':=fun p l=>some ((vp,vf,vn,vs,fa,fi,p),l)) (by simp) ?_ ?_ ?_
     ·intro out i ⟨a,c⟩ hs;have:=hs.2.1 rfl;simp only at this;subst this;by_cases hi:(0:Int)<v3'-(i:Int)<;>simp only[hi,zDt,zDf,zAJ,zAI,Bool.not_true,zAH]
     ·intro l hl;have hv:=zEf e9 hl;have hz:=zv3' l hl;refine⟨fun out ⟨a,c⟩ l hs=>?_,fun out i ⟨a,c⟩ l hi ho hs=>?_⟩
      ·have hi:¬((0:Int)<v3'-(v3'.toNat:Int)):=by omega
       simp only[hi,zDf,zAI,zAH]
      ·have hi':(0:Int)<v3'-(i:Int):=by omega
       have hw:IntKind.wrap .i64 (v3'-(i:Int)-1)=v3'-((i+1:Nat):Int):=by rw[wI (by omega) (by omega)];omega
       have hc:=(hs.2.2 l rfl).1;simp only at hc;subst hc;simp only[hi',zDt,zAJ,Bool.not_false,zAC]
       have ho1:out.length+1≤9223372036854775807:=by omega
       have ho2:(out.length+1)*104≤140737488355328:=by omega
       show St Re2 _ (fun w s'=>Sum.inl ((v3'-((i+1:Nat):Int),(([]:List Cst),(0:Int),(0:Int),(0:Int),([]:List Int),([]:List Fld),([]:List Mth)),(vp,vf,vn,vs,fa,fi,out++[w]),s'))) ((some l).bind gMth);refine St.last (i62 _ _ hs) fun w0 ⟨a5,gc5⟩=>?_
       simp only[ho1,ho2,zDt,zAt,zAD,hw]
     ·intro out ⟨a,c⟩ st' hs;cases st' with
      | none=>
        have:=hs.2.1 rfl;simp only at this;subst this;rfl
      | some l' =>
        obtain⟨hc,rfl⟩:=hs.2.2 l' rfl;simp only at hc;subst hc;simp only[zAI,zAU,zAG,zOb]
        by_cases hr:l'=[]
        ·subst hr;rfl
        ·rw[if_neg hr];cases l' with
         |nil=>exact absurd rfl hr
         |cons x y=>rfl
 ·rw[if_neg hvt];have e:st1.bind (gc1 vt)=none:=by cases st1<;>simp[gc1,hvt]
  rw[e];rfl
end Go.Proofs.YtdpapeledldifaaGreat
end
section
namespace Go.TM
open Go.AM
section
variable {α X Y:Type}
def zNg {f:X→Option (X⊕Y)}(mk:List UInt8→Nat→X)(fin:List UInt8→Y)(l:List α)(p:α→List UInt8)(K:Nat)(hK:∀ x∈l,(p x).length≤K)
  (b:Nat) (hend:∀out,f (mk out l.length)=some (.inr (fin out)))
  (hstep:∀out i (h:i<l.length),out.length≤b+i*K→f (mk out i)=some (.inl (mk (out++p l[i]) (i+1)))) :
  ∀(out:List UInt8),out.length≤b→zAE f (mk out 0)=some (fin (out++(l.map p).flatten))∧(out++(l.map p).flatten).length≤b+l.length*K:=by
 have key:∀(m i:Nat) (out:List UInt8),i+m=l.length→out.length≤b+i*K→zAE f (mk out i)=some (fin (out++((l.drop i).map p).flatten))∧(out++((l.drop i).map p).flatten).length≤b+l.length*K:=by
  intro m
  induction m with
  | zero=>
    intro i out hi ho;have:i=l.length:=by omega
    subst this;rw[zAd,hend,List.drop_eq_nil_of_le (zLr _)];exact⟨by simp,by simpa using ho⟩
  | succ m ih=>
    intro i out hi ho;have h:i<l.length:=by omega
    rw[zAd,hstep out i h ho];have hk:=hK l[i] (List.getElem_mem h);have e:(i+1)*K=i*K+K:=by rw[Nat.add_mul];omega
    have:=ih (i+1) (out++p l[i]) (by omega) (by rw[zLa,e];omega);rw[zBf h,zMc,List.flatten_cons,←zAa];exact this
 intro out ho;have:=key l.length 0 out (by omega) (by omega);simpa using this
def zCI {R:Type}{f:X→Option (X⊕(Y⊕R))}(mk:List UInt8→Nat→X)(fin:List UInt8→Y)(l:List α)(p:α→List UInt8)(K:Nat)(hK:∀ x∈l,(p x).length≤K)
  (b:Nat) {out:List UInt8} {k:Y→Option R} {x0:X} {r:Option R} (hx:x0=mk out 0) (ho:out.length≤b) (hend:∀out,f (mk out l.length)=some (.inr (.inl (fin out))))
  (hstep:∀out i (h:i<l.length),out.length≤b+i*K→f (mk out i)=some (.inl (mk (out++p l[i]) (i+1))))
  (hk:(out++(l.map p).flatten).length≤b+l.length*K→k (fin (out++(l.map p).flatten))=r):bindE (zAE f x0) k=r:=by
 obtain⟨h1,h2⟩:=zNg mk (fun out=>(.inl (fin out):Y⊕R)) l p K hK b hend hstep out ho;rw[hx,h1,zAC];exact hk h2
def zFz (l:List α)(p:α→List UInt8)(K:Nat)(hK:∀ x∈l,(p x).length≤K):((l.map p).flatten).length≤l.length*K:=by
 induction l with
 |nil=>simp
 | cons x l ih=>
   have:=ih fun x hx=>hK x (by simp[hx])
   have:=hK x (by simp);simp only[zMc,List.flatten_cons,zLa,zLc,Nat.add_mul]
   omega
end
end Go.TM
namespace Go.Proofs.YtdpapeledldifaaGreat
open Go Go.AM Go.TM
def w1 (n:Int):List UInt8:=[UInt8.ofNat (IntKind.wrap .u8 n).toNat]
def tS (n:Int):List UInt8:=w1 (IntKind.wrap .i64 (Int.tdiv n 256))++w1 (Int.tmod n 256)
def tI (n:Int):List UInt8:=w1 (Int.fdiv n 256)++w1 n
def wrap8 (n:Int):0≤IntKind.wrap .u8 n∧IntKind.wrap .u8 n≤255:=by
 have h:IntKind.wrap .u8 n=n % 256:=by
  simp[IntKind.wrap,IntKind.bits,IntKind.signed]
 rw[h];omega
@[simp] def zAV (n:Int):(w1 n).length=1:=by unfold w1;simp
@[simp] def zBF (n:Int):(tS n).length=2:=by unfold tS;simp
@[simp] def zBA (n:Int):(tI n).length=2:=by unfold tI;simp
def p134 (n:Int):F134 n=some (w1 n):=by
 have:=wrap8 n;simp only[F134]
 rw[zDP,zAX this.1,zAX this.2];rfl
def p144 (n:Int):F144 n=some (w1 n):=p134 n
def p136 (n:Int):F136 n=some (tS n):=by
 have h1:=wrap8 (IntKind.wrap .i64 (Int.tdiv n 256));have h2:=wrap8 (Int.tmod n 256);simp only[F136]
 rw[zDP,zAX h1.1,zAX h1.2,zDP,zAX h2.1,zAX h2.2];rfl
def p145 (n:Int):F145 n=some (tI n):=by
 simp only[F145,p144,zAB]
 rw[zAX (by simp)];rfl
def pEnt (two:Int→List UInt8)(c:Cst):List UInt8:=w1 c.1++if c.1=1 then w1 c.2.1.length++c.2.1 else if c.1=2 then two c.2.2.1 else two c.2.2.1++two c.2.2.2
def pKnd (two:Int→List UInt8)(k:Knd):List UInt8:=w1 k.1++if k.1=3 then two k.2 else []
def zJs (two:Int→List UInt8)(l:List Knd):List UInt8:=w1 l.length++(l.map (pKnd two)).flatten
def pTrp (two:Int→List UInt8)(t:Trp):List UInt8:=two t.1++(two t.2.1++(two t.2.2.1++two t.2.2.2))
def pFrm (two:Int→List UInt8)(t:Frm):List UInt8:=two t.1++(zJs two t.2.1++zJs two t.2.2)
def pFld (two:Int→List UInt8)(t:Fld):List UInt8:=w1 t.1++(two t.2.1++two t.2.2)
def pMth (two:Int→List UInt8)(ab:Int→Bool)(m:Mth):List UInt8:=w1 m.1++(two m.2.1++(two m.2.2.1++if ab m.1=true then []else
 w1 m.2.2.2.1++(w1 m.2.2.2.2.1++(two m.2.2.2.2.2.1.length++(m.2.2.2.2.2.1++(w1 m.2.2.2.2.2.2.1.length++((m.2.2.2.2.2.2.1.map (pTrp two)).flatten++(w1 m.2.2.2.2.2.2.2.length++(m.2.2.2.2.2.2.2.map (pFrm two)).flatten))))))))
def pCls (two:Int→List UInt8)(ab:Int→Bool)(c:Cls):List UInt8:=[83,84,79,87]++(w1 c.1.length++((c.1.map (pEnt two)).flatten++(w1 c.2.1++(two c.2.2.1++(two c.2.2.2.1++(w1 c.2.2.2.2.1.length++((c.2.2.2.2.1.map two).flatten ++
 (w1 c.2.2.2.2.2.1.length++((c.2.2.2.2.2.1.map (pFld two)).flatten++(w1 c.2.2.2.2.2.2.length++(c.2.2.2.2.2.2.map (pMth two ab)).flatten))))))))))
def p135 (c:Cst)(h:bCst c):F135 c=some (pEnt tS c):=by
 obtain⟨c0,c1,c2,c3⟩:=c;simp only[bCst]at h;simp only[F135,p134,p136,zAB,zAG,zDt,zAD,zAS,zLa,zAV,zBF,pEnt]
 by_cases h1:c0=1
 ·simp (discharger:=omega) only[h1,if_true,zAX,zAa]
 ·by_cases h2:c0=2
  ·subst h2;simp (discharger:=omega) only[Int.reduceEq,↓reduceIte,zAX,zAS,zAa]
  ·simp (discharger:=omega) only[h1,h2,if_true,if_false,zAX,zAS,zAa]
def p216 (l:List Knd)(h:zHe l):F216 l=some (zJs tS l):=by
 simp only[zHe]at h;simp only[F216,p134,p136,zAB]
 refine(congrArg (bindE · _) (zNg (fun out i=>(l,out,(i:Int))) (fun out=>(Sum.inl out:List UInt8⊕List UInt8)) l (pKnd tS) 3 (fun x _=>by simp only[pKnd];split<;>simp) 1 ?_ ?_ (w1 l.length) (by simp)).1).trans rfl
 ·intro out;simp only[zIl,zDf,zAI]
 ·intro out i hi ho;have hi':(i:Int)<l.length:=by omega
  have h0:(0:Int)≤i:=by omega
  simp (discharger:=omega) only[hi',h0,zDt,zAJ,zAD,zTn,zAK,zAG,zAs]
  by_cases hk:l[i].1=3 <;>
  ·simp (discharger:=omega) only[hk,pKnd,↓reduceIte,zAX,zAV,zBF,zLa,zAC,wI,zAa,zAn]
   rfl
section
variable {two:Int→List UInt8}(h2:∀ n,(two n).length=2)
include h2
def zEY (l:List Knd)(h:zHe l):(zJs two l).length≤3145729:=by
 have:=zFz l (pKnd two) 3 fun x _=>by simp only[pKnd];split<;>simp[h2]
 simp only[zHe]at h;simp only[zJs,zLa,zAV]
 omega
def zNi (t:Trp):(pTrp two t).length≤8:=by simp[pTrp,h2]
def zNk (t:Frm)(h:bFrm t):(pFrm two t).length≤6291460:=by
 have q1:=zEY h2 _ h.1;have q2:=zEY h2 _ h.2;simp only[pFrm,zLa,h2]
 omega
def zNl (c:Cst)(h:bCst c):(pEnt two c).length≤1048586:=by
 simp only[bCst]at h;unfold pEnt;split
 ·simp only[zLa,zAV];omega
 ·split<;>simp[h2]
def zNj (ab:Int→Bool)(m:Mth)(h:bMth m):(pMth two ab m).length≤8796093022208:=by
 obtain⟨a1,a2,a3,a4⟩:=h;have q1:=zFz m.2.2.2.2.2.2.1 (pTrp two) 8 fun x _=>zNi h2 x
 have q2:=zFz m.2.2.2.2.2.2.2 (pFrm two) 6291460 fun x hx=>zNk h2 x (a4 x hx)
 unfold pMth;split
 ·simp[h2]
 ·simp only[zLa,zAV,h2]
  omega
end
def abS (f:Int):Bool:=decide (IntKind.wrap .i64 (Int.tdiv (Int.tmod f 16) 8)=1)
def abI (f:Int):Bool:=!decide (andI .i64 f 8=0)
def p137 (m:Mth)(h:bMth m):F137 m=some (pMth tS abS m):=by
 obtain⟨m0,m1,m2,m3,m4,m5,m6,m7⟩:=m;obtain⟨a1,a2,a3,a4⟩:=h;simp only at a1 a2 a3 a4;simp (discharger:=omega) only[F137,p134,p136,zAB,zDt,zAD,zAS,zLa,zAV,zBF,zAX,zAt,zAG]
 by_cases hab:IntKind.wrap .i64 (Int.tdiv (Int.tmod m0 16) 8)=1
 ·simp only[hab,pMth,abS,zDt,if_true,zAa,zAn]
 ·simp only[hab,if_false]
  refine zCI (fun out i=>(out,(i:Int),m0,m1,m2,m3,m4,m5,m6,m7)) (fun out=>(out,m0,m1,m2,m3,m4,m5,m6,m7)) m6 (pTrp tS) 8 (fun x _=>zNi zBF x) 1048600 rfl (by simp only[zLa,zAV,zBF];omega) ?_ ?_ ?_
  ·intro out;simp only[zIl,zDf,zAI,if_false]
  ·intro out i hi ho;have hi':(i:Int)<m6.length:=by omega
   have h0:(0:Int)≤i:=by omega
   simp (discharger:=omega) only[hi',h0,zDt,zAJ,if_true,zAD,zTn,zAK,zAB,zAS,zAX,zAV,zBF,zLa,wI,pTrp,zAa]
   rfl
  ·intro hl;simp only[zLa,zAV,zBF]at hl;simp (discharger:=omega) only[zAB,zAX,zLa,zAV,zBF]
   refine zCI (fun out i=>(out,(i:Int),m0,m1,m2,m3,m4,m5,m6,m7)) (fun out=>out) m7 (pFrm tS) 6291460 (fun x hx=>zNk zBF x (a4 x hx)) 10000000 rfl (by simp only[zLa,zAV,zBF];omega) ?_ ?_ ?_
   ·intro out;simp only[zIl,zDf,zAI,if_false]
   ·intro out i hi ho;have hi':(i:Int)<m7.length:=by omega
    have h0:(0:Int)≤i:=by omega
    have hb:=a4 _ (List.getElem_mem hi);have q1:=p216 _ hb.1;have q2:=p216 _ hb.2;have l1:=zEY zBF _ hb.1;have l2:=zEY zBF _ hb.2;simp (discharger:=omega) only[hi',h0,zDt,zAJ,if_true,zAD,zTn,zAK,q1,q2,zAB,zAS,zAX,zAV,zBF,zLa,wI,pFrm,zAa]
    rfl
   ·intro _;simp only[pMth,abS,hab,zDf,zFt,if_false,zAa]
end Go.Proofs.YtdpapeledldifaaGreat
end
namespace Go.Proofs.YtdpapeledldifaaGreat
section
open Go Go.AM Go.TM
def few (c:Cls):Prop:=c.1.length≤60∧c.2.2.2.2.1.length≤3∧c.2.2.2.2.2.1.length≤5∧c.2.2.2.2.2.2.length≤6
instance (c:Cls):Decidable (few c):=inferInstanceAs (Decidable (_∧_∧_∧_))
def zTU {two:Int→List UInt8}(h2:∀ n,(two n).length=2)(t:Fld):(pFld two t).length≤5:=by simp[pFld,h2]
def p55 (c:Cls)(h:bCls c)(hf:few c):F55 c=some (pCls tS abS c):=by
 obtain⟨c0,c1,c2,c3,c4,c5,c6⟩:=c;obtain⟨⟨a1,a2⟩,a3,a4,a5,a6⟩:=h;obtain⟨f1,f2,f3,f4⟩:=hf;simp only at a1 a2 a3 a4 a5 a6 f1 f2 f3 f4;simp (discharger:=omega) only[F55,p134,p136,zAB,zDt,zAD,zAS,zLa,zAV,zBF,zAX,zAt]
 refine zCI (fun out i=>(out,(i:Int),c0,c1,c2,c3,c4,c5,c6)) (fun out=>(out,c0,c1,c2,c3,c4,c5,c6)) c0 (pEnt tS) 1048586 (fun x hx=>zNl zBF x (a2 x hx)) 10 rfl (by simp) ?_ ?_ ?_
 ·intro out;simp only[zIl,zDf,zAI,if_false]
 ·intro out i hi ho;have hi':(i:Int)<c0.length:=by omega
  have h0:(0:Int)≤i:=by omega
  have hb:=a2 _ (List.getElem_mem hi);have q1:=p135 _ hb;have l1:=zNl zBF _ hb;simp (discharger:=omega) only[hi',h0,zDt,zAJ,if_true,zAD,zTn,zAK,q1,zAB,zAS,zAX,wI]
  rfl
 intro hl;simp only[zLa,zAV,zBF]at hl;simp (discharger:=omega) only[zAB,zAX,zDt,zAD,zAS,zLa,zAV,zBF]
 refine zCI (fun out i=>(out,(i:Int),c0,c1,c2,c3,c4,c5,c6)) (fun out=>(out,c0,c1,c2,c3,c4,c5,c6)) c4 tS 2 (fun x hx=>by simp) 70000000 rfl (by simp only[zLa,zAV,zBF];omega) ?_ ?_ ?_
 ·intro out;simp only[zIl,zDf,zAI,if_false]
 ·intro out i hi ho;have hi':(i:Int)<c4.length:=by omega
  have h0:(0:Int)≤i:=by omega
  simp (discharger:=omega) only[hi',h0,zDt,zAJ,if_true,zAD,zTn,zAK,zAB,zAS,zAX,zBF,wI]
  rfl
 intro hl2;simp only[zLa,zAV,zBF]at hl2;simp (discharger:=omega) only[zAB,zAX,zDt,zAD,zAS,zLa,zAV,zBF]
 refine zCI (fun out i=>(out,(i:Int),c0,c1,c2,c3,c4,c5,c6)) (fun out=>(out,c0,c1,c2,c3,c4,c5,c6)) c5 (pFld tS) 5 (fun x hx=>zTU zBF x) 80000000 rfl (by simp only[zLa,zAV,zBF];omega) ?_ ?_ ?_
 ·intro out;simp only[zIl,zDf,zAI,if_false]
 ·intro out i hi ho;have hi':(i:Int)<c5.length:=by omega
  have h0:(0:Int)≤i:=by omega
  simp (discharger:=omega) only[hi',h0,zDt,zAJ,if_true,zAD,zTn,zAK,zAB,zAS,zAX,zAV,zBF,zLa,wI,pFld,zAa,zAt]
  rfl
 intro hl3;simp only[zLa,zAV,zBF]at hl3;simp (discharger:=omega) only[zAB,zAX,zDt,zAD,zAS,zLa,zAV,zBF]
 refine zCI (fun out i=>(out,(i:Int),c0,c1,c2,c3,c4,c5,c6)) (fun out=>out) c6 (pMth tS abS) 8796093022208 (fun x hx=>zNj zBF abS x (a6 x hx)) 90000000 rfl (by simp only[zLa,zAV,zBF];omega) ?_ ?_ ?_
 ·intro out;simp only[zIl,zDf,zAI,if_false]
 ·intro out i hi ho;have hi':(i:Int)<c6.length:=by omega
  have h0:(0:Int)≤i:=by omega
  have hb:=a6 _ (List.getElem_mem hi);have q1:=p137 _ hb;have l1:=zNj zBF abS _ hb;simp (discharger:=omega) only[hi',h0,zDt,zAJ,if_true,zAD,zTn,zAK,q1,zAB,zAS,zAX,wI]
  rfl
 ·intro _;simp only[pCls,zAa]
def p146 (l:List Knd)(h:zHe l):F146 l=some (zJs tI l):=by
 simp only[zHe]at h;simp only[F146,p144,p145,zAB]
 refine(congrArg (bindE · _) (zNg (fun out i=>(out,l,(l.length:Int),(i:Int))) (fun out=>(Sum.inl out:List UInt8⊕List UInt8)) l (pKnd tI) 3 (fun x _=>by simp only[pKnd];split<;>simp) 1 ?_ ?_ (w1 l.length) (by simp)).1).trans rfl
 ·intro out;simp only[zIl,zDf,zAI]
 ·intro out i hi ho;have hi':(i:Int)<l.length:=by omega
  have h0:(0:Int)≤i:=by omega
  simp (discharger:=omega) only[hi',h0,zDt,zAJ,zAD,zTn,zAK,zAG,zAs]
  by_cases hk:l[i].1=3 <;>
  ·simp (discharger:=omega) only[hk,pKnd,↓reduceIte,zAX,zAV,zBA,zLa,zAC,wI,zAa,zAn]
   rfl
def zDM:([83,84,79,87]:List UInt8).length=4:=by decide
def p86 (n:Int):F86 n=some (abI n):=rfl
def p67 (c:Cls)(h:bCls c)(hf:few c):F67 c=some (pCls tI abI c):=by
 obtain⟨c0,c1,c2,c3,c4,c5,c6⟩:=c;obtain⟨⟨a1,a2⟩,a3,a4,a5,a6⟩:=h;obtain⟨f1,f2,f3,f4⟩:=hf;simp only at a1 a2 a3 a4 a5 a6 f1 f2 f3 f4;simp (discharger:=omega) only[F67,p144,p145,p86,zAB,zDt,zAD,zAS,zLa,zAV,zBA,zAX,zAt]
 refine zCI (fun out i=>(out,c0,(c0.length:Int),(i:Int),c0,c1,c2,c3,c4,c5,c6)) (fun out=>(out,c0,c1,c2,c3,c4,c5,c6)) c0 (pEnt tI) 1048586 (fun x hx=>zNl zBA x (a2 x hx)) 10 rfl (by simp) ?_ ?_ ?_
 ·intro out;simp only[zIl,zDf,zAI,if_false]
 ·intro out i hi ho;have hi':(i:Int)<c0.length:=by omega
  have h0:(0:Int)≤i:=by omega
  have hb:=a2 _ (List.getElem_mem hi);simp only[bCst]at hb;simp (discharger:=omega) only[hi',h0,zDt,zAJ,if_true,zAD,zTn,zAK,zAB,zAS,zAX,zAV,zBA,zLa,wI,zAG,zAs]
  by_cases e1:c0[i].1=1
  ·simp (discharger:=omega) only[e1,pEnt,↓reduceIte,zAC,zAX,zAS,zAV,zBA,zLa,zAa,wI]
   rfl
  ·by_cases e2:c0[i].1=2
   ·simp (discharger:=omega) only[e2,pEnt,Int.reduceEq,↓reduceIte,zAC,zAX,zAS,zAV,zBA,zLa,zAa,wI]
    rfl
   ·simp (discharger:=omega) only[e1,e2,pEnt,↓reduceIte,zAC,zAX,zAS,zAV,zBA,zLa,zAa,wI]
    rfl
 intro hl;simp only[zLa,zAV,zBA,zDM]at hl;simp (discharger:=omega) only[zAB,zAX,zDt,zAD,zAS,zLa,zAV,zBA,zDM]
 refine zCI (fun out i=>(out,c4,(c4.length:Int),(i:Int),c0,c1,c2,c3,c4,c5,c6)) (fun out=>(out,c0,c1,c2,c3,c4,c5,c6)) c4 tI 2 (fun x hx=>by simp) 70000000 rfl (by simp only[zLa,zAV,zBA,zDM];omega) ?_ ?_ ?_
 ·intro out;simp only[zIl,zDf,zAI,if_false]
 ·intro out i hi ho;have hi':(i:Int)<c4.length:=by omega
  have h0:(0:Int)≤i:=by omega
  simp (discharger:=omega) only[hi',h0,zDt,zAJ,if_true,zAD,zTn,zAK,zAB,zAS,zAX,zAV,zBA,zLa,wI,zAa,zAt]
  rfl
 intro hl2;simp only[zLa,zAV,zBA,zDM]at hl2;simp (discharger:=omega) only[zAB,zAX,zDt,zAD,zAS,zLa,zAV,zBA,zDM]
 refine zCI (fun out i=>(out,c5,(c5.length:Int),(i:Int),c0,c1,c2,c3,c4,c5,c6)) (fun out=>(out,c0,c1,c2,c3,c4,c5,c6)) c5 (pFld tI) 5 (fun x hx=>zTU zBA x) 80000000 rfl (by simp only[zLa,zAV,zBA,zDM];omega) ?_ ?_ ?_
 ·intro out;simp only[zIl,zDf,zAI,if_false]
 ·intro out i hi ho;have hi':(i:Int)<c5.length:=by omega
  have h0:(0:Int)≤i:=by omega
  simp (discharger:=omega) only[hi',h0,zDt,zAJ,if_true,zAD,zTn,zAK,pFld,zAB,zAS,zAX,zAV,zBA,zLa,wI,zAa,zAt]
  rfl
 intro hl3;simp only[zLa,zAV,zBA,zDM]at hl3;simp (discharger:=omega) only[zAB,zAX,zDt,zAD,zAS,zLa,zAV,zBA,zDM]
 refine zCI (fun out i=>(out,c6,(c6.length:Int),(i:Int))) (fun out=>out) c6 (pMth tI abI) 8796093022208 (fun x hx=>zNj zBA abI x (a6 x hx)) 90000000 rfl (by simp only[zLa,zAV,zBA,zDM];omega) ?_ ?_ ?_
 ·intro out;simp only[zIl,zDf,zAI,if_false]
 ·intro out i hi ho;have hi':(i:Int)<c6.length:=by omega
  have h0:(0:Int)≤i:=by omega
  have hb:=a6 _ (List.getElem_mem hi);rcases hm:c6[i]with⟨m0,m1,m2,m3,m4,m5,m6,m7⟩;rw[hm]at hb;obtain⟨b1,b2,b3,b4⟩:=hb;simp only at b1 b2 b3 b4;simp (discharger:=omega) only[hi',h0,zDt,zAJ,if_true,zAD,zTn,zAK,hm,p86,zAB,zAS,zAX,zAV,zBA,zLa,wI]
  cases hab:abI m0 with
  | true=>
    simp (discharger:=omega) only[zAJ,zAC,pMth,hab,if_true,zAa,zAn,wI]
    rfl
  |false=>
  simp (discharger:=omega) only[zAI,zAB,zAS,zAX,zDt,zAD,zAV,zBA,zLa]
  refine(congrArg (bindE · _) (?_:_=some (Sum.inl (out++pMth tI abI (m0,m1,m2,m3,m4,m5,m6,m7),c6,(c6.length:Int),(i:Int))))).trans (by simp (discharger:=omega) only[zAC,wI];rfl);refine zCI (fun out j=>(out,c6,(c6.length:Int),(i:Int),m6,(m6.length:Int),(j:Int),m0,m1,m2,m3,m4,m5,m6,m7)) (fun out=>(out,c6,(c6.length:Int),(i:Int),m0,m1,m2,m3,m4,m5,m6,m7)) m6 (pTrp tI) 8 (fun x hx=>zNi zBA x) 100000000000000 rfl (by simp only[zLa,zAV,zBA];omega) ?_ ?_ ?_
  ·intro out;simp only[zIl,zDf,zAI,if_false]
  ·intro out j hj ho2;have hj':(j:Int)<m6.length:=by omega
   have h0:(0:Int)≤j:=by omega
   simp (discharger:=omega) only[hj',h0,zDt,zAJ,if_true,zAD,zTn,zAK,pTrp,zAB,zAS,zAX,zAV,zBA,zLa,wI,zAa,zAt]
   rfl
  intro hl4;simp only[zLa,zAV,zBA]at hl4;simp (discharger:=omega) only[zAB,zAX,zDt,zAD,zAS,zLa,zAV,zBA]
  refine zCI (fun out j=>(out,c6,(c6.length:Int),(i:Int),m7,(m7.length:Int),(j:Int))) (fun out=>(out,c6,(c6.length:Int),(i:Int))) m7 (pFrm tI) 6291460 (fun x hx=>zNk zBA x (b4 x hx)) 200000000000000 rfl (by simp only[zLa,zAV,zBA];omega) ?_ ?_ ?_
  ·intro out;simp only[zIl,zDf,zAI,if_false]
  ·intro out j hj ho2;have hj':(j:Int)<m7.length:=by omega
   have h0:(0:Int)≤j:=by omega
   have hb:=b4 _ (List.getElem_mem hj);have q1:=p146 _ hb.1;have q2:=p146 _ hb.2;have l1:=zEY zBA _ hb.1;have l2:=zEY zBA _ hb.2;simp (discharger:=omega) only[hj',h0,zDt,zAJ,if_true,zAD,zTn,zAK,q1,q2,pFrm,zAB,zAS,zAX,zAV,zBA,zLa,wI,zAa,zAt]
   rfl
  intro _;simp only[pMth,hab,zFt,if_false,zAa]
 ·intro _;simp only[pCls,zAa]
def i1 (n:Int):Prop:=0≤n∧n≤255
def i2 (n:Int):Prop:=0≤n∧n≤65535
def fEnt (c:Cst):Prop:=(1≤c.1∧c.1≤6)∧c.2.1.length≤255∧i2 c.2.2.1∧i2 c.2.2.2
def fKnd (k:Knd):Prop:=(0≤k.1∧k.1≤3)∧i2 k.2
def fKnds (l:List Knd):Prop:=l.length≤8∧∀k∈l,fKnd k
def fTrp (t:Trp):Prop:=i2 t.1∧i2 t.2.1∧i2 t.2.2.1∧i2 t.2.2.2
def fFrm (f:Frm):Prop:=i2 f.1∧fKnds f.2.1∧fKnds f.2.2
def fFld (t:Fld):Prop:=i1 t.1∧i2 t.2.1∧i2 t.2.2
def fMth (m:Mth):Prop:=i1 m.1∧i2 m.2.1∧i2 m.2.2.1∧i1 m.2.2.2.1∧i1 m.2.2.2.2.1∧m.2.2.2.2.2.1.length≤120∧(m.2.2.2.2.2.2.1.length≤3∧∀t∈m.2.2.2.2.2.2.1,fTrp t)∧m.2.2.2.2.2.2.2.length≤8∧∀f∈m.2.2.2.2.2.2.2,fFrm f
def fCls (c:Cls):Prop:=few c∧(∀x∈c.1,fEnt x)∧i1 c.2.1∧i2 c.2.2.1∧i2 c.2.2.2.1∧(∀x∈c.2.2.2.2.1,i2 x)∧(∀x∈c.2.2.2.2.2.1,fFld x)∧∀x∈c.2.2.2.2.2.2,fMth x
def zAz {α β:Type}{m:Option α}{k:α→Option β}{r:β}(h:m.bind k=some r):∃a,m=some a∧k a=some r:=by
 cases m with
 |none=>cases h
 |some a=>exact⟨a,rfl,h⟩
def gT_len {n:Int}{l:List UInt8}{p:List UInt8×List UInt8}(h:gT n l=some p):p.1.length≤n.toNat:=by
 unfold gT at h;split at h
 ·simp only[zSe]at h;rw[←h];simp only[zLt];omega
 ·cases h
def zCb {β:Type}{most:Int}{g:List UInt8→Option (β×List UInt8)}{P:β→Prop}(hg:∀ l v l',g l=some (v,l')→P v){l l':List UInt8}{vs:List β}(h:zBj most g l=some (vs,l')):(vs.length:Int)≤most∧∀v∈vs,P v:=by
 obtain⟨p,h1,h2⟩:=zAz h;split at h2
 ·cases h2
 ·have:=zDj (l:=l) (v:=p.1) (l':=p.2) h1;have:=zTj _ _ _ _ h2;exact⟨by omega,zTk hg _ _ _ _ h2⟩
def zGC (l:List UInt8)(v:Int)(l':List UInt8)(h:g2 l=some (v,l')):i2 v:=zXM h
def zXN (l:List UInt8)(v:Int)(l':List UInt8)(h:g1 l=some (v,l')):i1 v:=zDj h
def fit_ent (l:List UInt8)(v:Cst)(l':List UInt8)(h:zCj l=some (v,l')):fEnt v:=by
 obtain⟨⟨t,l1⟩,h1,h2⟩:=zAz h;simp only at h2;unfold gEnt at h2;split at h2
 ·obtain⟨⟨n,l2⟩,h3,h4⟩:=zAz h2;obtain⟨q,h5,h6⟩:=zAz h4;simp only[zSe,zPi]at h6;obtain⟨rfl,_⟩:=h6;have:=zDj h3;have:=gT_len h5;refine⟨⟨by simp,by simp⟩,by simp only;omega,⟨by simp,by simp⟩,⟨by simp,by simp⟩⟩
 ·split at h2
  ·obtain⟨⟨n,l2⟩,h3,h4⟩:=zAz h2;simp only[zSe,zPi]at h4;obtain⟨rfl,_⟩:=h4;exact⟨⟨by simp,by simp⟩,by simp,zGC _ _ _ h3,⟨by simp,by simp⟩⟩
  ·split at h2
   ·rename_i ht;obtain⟨⟨n,l2⟩,h3,h4⟩:=zAz h2;obtain⟨⟨n2,l3⟩,h5,h6⟩:=zAz h4;simp only[zSe,zPi]at h6;obtain⟨rfl,_⟩:=h6;exact⟨⟨by simp only;omega,by simp only;omega⟩,by simp,zGC _ _ _ h3,zGC _ _ _ h5⟩
   ·cases h2
def zXY (l:List UInt8)(v:Knd)(l':List UInt8)(h:gKnd l=some (v,l')):fKnd v:=by
 obtain⟨⟨t,l1⟩,h1,h2⟩:=zAz h;simp only at h2;have:=zDj h1;split at h2
 ·obtain⟨⟨n,l2⟩,h3,h4⟩:=zAz h2;simp only[zSe,zPi]at h4;obtain⟨rfl,_⟩:=h4;exact⟨⟨by simp,by simp⟩,zGC _ _ _ h3⟩
 ·split at h2
  ·cases h2
  ·simp only[zSe,zPi]at h2;obtain⟨rfl,_⟩:=h2;exact⟨⟨by simp only;omega,by simp only;omega⟩,⟨by simp,by simp⟩⟩
def fit_trp (l:List UInt8)(v:Trp)(l':List UInt8)(h:gTrp l=some (v,l')):fTrp v:=by
 obtain⟨⟨a,_⟩,h1,h⟩:=zAz h;obtain⟨⟨b,_⟩,h2,h⟩:=zAz h;obtain⟨⟨c,_⟩,h3,h⟩:=zAz h;obtain⟨⟨d,_⟩,h4,h⟩:=zAz h;simp only[zSe,zPi]at h;obtain⟨rfl,_⟩:=h;exact⟨zGC _ _ _ h1,zGC _ _ _ h2,zGC _ _ _ h3,zGC _ _ _ h4⟩
def fit_frm (l:List UInt8)(v:Frm)(l':List UInt8)(h:gFrm l=some (v,l')):fFrm v:=by
 obtain⟨⟨a,_⟩,h1,h⟩:=zAz h;obtain⟨⟨b,_⟩,h2,h⟩:=zAz h;obtain⟨⟨c,_⟩,h3,h⟩:=zAz h;simp only[zSe,zPi]at h;obtain⟨rfl,_⟩:=h;obtain⟨q1,q2⟩:=zCb zXY h2;obtain⟨r1,r2⟩:=zCb zXY h3;exact⟨zGC _ _ _ h1,⟨by simp only;omega,q2⟩,⟨by simp only;omega,r2⟩⟩
def fit_fld (l:List UInt8)(v:Fld)(l':List UInt8)(h:gFld l=some (v,l')):fFld v:=by
 obtain⟨⟨a,_⟩,h1,h⟩:=zAz h;obtain⟨⟨b,_⟩,h2,h⟩:=zAz h;obtain⟨⟨c,_⟩,h3,h⟩:=zAz h;simp only[zSe,zPi]at h;obtain⟨rfl,_⟩:=h;exact⟨zXN _ _ _ h1,zGC _ _ _ h2,zGC _ _ _ h3⟩
def fit_mth (l:List UInt8)(v:Mth)(l':List UInt8)(h:gMth l=some (v,l')):fMth v:=by
 obtain⟨⟨f,_⟩,h1,h⟩:=zAz h;obtain⟨⟨n,_⟩,h2,h⟩:=zAz h;obtain⟨⟨d,_⟩,h3,h⟩:=zAz h;have q1:=zXN _ _ _ h1;have q2:=zGC _ _ _ h2;have q3:=zGC _ _ _ h3;have z:i1 0:=⟨by omega,by omega⟩
 unfold m3 at h;split at h
 ·simp only[zSe,zPi]at h;obtain⟨rfl,_⟩:=h;exact⟨q1,q2,q3,z,z,by simp,⟨by simp,by simp⟩,by simp,by simp⟩
 ·obtain⟨⟨s,_⟩,h4,h⟩:=zAz h;obtain⟨⟨lo,_⟩,h5,h⟩:=zAz h;obtain⟨⟨k,_⟩,h6,h⟩:=zAz h;unfold b5 at h;split at h
  ·cases h
  ·obtain⟨⟨code,_⟩,h7,h⟩:=zAz h;obtain⟨⟨tr,_⟩,h8,h⟩:=zAz h;obtain⟨⟨fr,_⟩,h9,h⟩:=zAz h;simp only[zSe,zPi]at h;obtain⟨rfl,_⟩:=h;have hc:=gT_len h7;obtain⟨t1,t2⟩:=zCb fit_trp h8;obtain⟨r1,r2⟩:=zCb fit_frm h9;exact⟨q1,q2,q3,zXN _ _ _ h4,zXN _ _ _ h5,by simp only at hc ⊢;omega,⟨by simp only;omega,t2⟩,by simp only;omega,r2⟩
def zOJ (l:List UInt8)(v:Cls)(l':List UInt8)(h:gCls l=some (v,l')):fCls v:=by
 obtain⟨⟨t,_⟩,_,h⟩:=zAz h;unfold gc1 at h;split at h
 ·cases h
 obtain⟨⟨pool,_⟩,h1,h⟩:=zAz h;obtain⟨⟨f,_⟩,h2,h⟩:=zAz h;obtain⟨⟨n,_⟩,h3,h⟩:=zAz h;obtain⟨⟨s,_⟩,h4,h⟩:=zAz h;obtain⟨⟨fa,_⟩,h5,h⟩:=zAz h;obtain⟨⟨fi,_⟩,h6,h⟩:=zAz h;obtain⟨⟨me,_⟩,h7,h⟩:=zAz h;simp only[zSe,zPi]at h;obtain⟨rfl,_⟩:=h;obtain⟨p1,p2⟩:=zCb fit_ent h1;obtain⟨a1,a2⟩:=zCb zGC h5;obtain⟨i1,i2⟩:=zCb fit_fld h6;obtain⟨m1,m2⟩:=zCb fit_mth h7;exact⟨⟨by simp only;omega,by simp only;omega,by simp only;omega,by simp only;omega⟩,p2,zXN _ _ _ h2,zGC _ _ _ h3,zGC _ _ _ h4,a2,i2,m2⟩
def zDI (n:Int)(h:i2 n):tS n=tI n:=by
 obtain⟨h1,h2⟩:=h;have e1:Int.tdiv n 256=n / 256:=Int.tdiv_eq_ediv_of_nonneg h1;have e2:Int.tmod n 256=n % 256:=Int.tmod_eq_emod_of_nonneg h1;have e3:Int.fdiv n 256=n / 256:=Int.fdiv_eq_ediv_of_nonneg n (by omega);have w:∀m:Int,IntKind.wrap .u8 m=m % 256:=fun m=>by simp[IntKind.wrap,IntKind.bits,IntKind.signed]
 unfold tS tI;rw[e1,e2,e3,wI (by omega) (by omega)];congr 1;unfold w1;rw[w,w];congr 3;omega
def zXx (n:Int)(h:i1 n):abS n=abI n:=by
 obtain⟨h1,h2⟩:=h;have:=zXw ⟨n.toNat,by omega⟩;have e:((n.toNat:Nat):Int)=n:=by omega
 rw[show(⟨n.toNat,by omega⟩:Fin 256).val=n.toNat from rfl,e]at this;unfold abS abI;rw[this];have q:Int.tmod n 16=n % 16:=Int.tmod_eq_emod_of_nonneg h1;have q2:Int.tdiv (n % 16) 8=n % 16 / 8:=Int.tdiv_eq_ediv_of_nonneg (by omega);rw[wI (by rw[q,q2];omega) (by rw[q,q2];omega)];rfl
def zJz {α β:Type}{f g:α→β}{l:List α}(h:∀ x∈l,f x=g x):l.map f=l.map g:=List.map_congr_left h
def ent_eq (c:Cst)(h:fEnt c):pEnt tS c=pEnt tI c:=by
 simp only[pEnt,zDI _ h.2.2.1,zDI _ h.2.2.2]
def zXA (l:List Knd)(h:fKnds l):zJs tS l=zJs tI l:=by
 simp only[zJs]
 rw[zJz (f:=pKnd tS) (g:=pKnd tI) fun x hx=>by simp only[pKnd,zDI _ (h.2 x hx).2]]
def mth_eq (m:Mth)(h:fMth m):pMth tS abS m=pMth tI abI m:=by
 obtain⟨h1,h2,h3,h4,h5,h6,⟨h7,h8⟩,h9,h10⟩:=h;simp only[pMth,zDI _ h2,zDI _ h3,zXx _ h1]
 rw[zDI _ (show i2 (m.2.2.2.2.2.1.length:Int)from⟨by omega,by omega⟩)]
 rw[zJz (f:=pTrp tS) (g:=pTrp tI) fun x hx=>by
  obtain⟨q1,q2,q3,q4⟩:=h8 x hx
  simp only[pTrp,zDI _ q1,zDI _ q2,zDI _ q3,zDI _ q4]]
 rw[zJz (f:=pFrm tS) (g:=pFrm tI) fun x hx=>by
  obtain⟨q1,q2,q3⟩:=h10 x hx
  simp only[pFrm,zDI _ q1,zXA _ q2,zXA _ q3]]
def zKV (c:Cls)(h:fCls c):pCls tS abS c=pCls tI abI c:=by
 obtain⟨_,h1,h2,h3,h4,h5,h6,h7⟩:=h;simp only[pCls,zDI _ h3,zDI _ h4]
 rw[zJz (f:=pEnt tS) (g:=pEnt tI) fun x hx=>ent_eq x (h1 x hx),zJz (f:=tS) (g:=tI) fun x hx=>zDI x (h5 x hx),zJz (f:=pMth tS abS) (g:=pMth tI abI) fun x hx=>mth_eq x (h7 x hx)]
 rw[zJz (f:=pFld tS) (g:=pFld tI) fun x hx=>by
  obtain⟨q1,q2,q3⟩:=h6 x hx
  simp only[pFld,zDI _ q2,zDI _ q3]]
end
end Go.Proofs.YtdpapeledldifaaGreat
section
namespace Go.TM
open Go.AM
section
variable {α X Y R:Type}
def zBi [DecidableEq α]{f:X→Option (X⊕(Y⊕R))}(mk:Nat→X)(fin:Y)(no:R)(a b:List α)(hl:a.length=b.length){x0:X}(hx:x0=mk 0){k:Y→Option R}
  (hend:f (mk a.length)=some (.inr (.inl fin)))
  (hstep:∀i (h:i<a.length) (h':i<b.length),f (mk i)=if a[i]=b[i]then some (.inl (mk (i+1)))else some (.inr (.inr no))) :
  bindE (zAE f x0) k=if a=b then k fin else some no:=by
 have key:∀(m i:Nat),i+m=a.length→zAE f (mk i)=some (if a.drop i=b.drop i then .inl fin else .inr no):=by
  intro m
  induction m with
  | zero=>
    intro i hi;have:i=a.length:=by omega
    subst this;rw[zAd,hend,List.drop_eq_nil_of_le (zLr _),List.drop_eq_nil_of_le (by omega),if_pos rfl]
  | succ m ih=>
    intro i hi;have h:i<a.length:=by omega
    have h':i<b.length:=by omega
    rw[zAd,hstep i h h',zBf h,zBf h'];by_cases hab:a[i]=b[i]
    ·rw[if_pos hab];simp only[hab,List.cons.injEq,true_and]
     exact ih (i+1) (by omega)
    ·rw[if_neg hab,if_neg (fun h=>hab (List.cons.inj h).1)]
 rw[hx,key a.length 0 (by omega),List.drop_zero,List.drop_zero];by_cases h:a=b
 ·simp only[h,if_true,zAC]
 ·simp only[h,if_false,zAH]
def zKG {p:Prop}[Decidable p]:(if p then some true else some false:Option Bool)=some (decide p):=by by_cases h:p<;>simp[h]
end
end Go.TM
namespace Go.Proofs.YtdpapeledldifaaGreat
open Go Go.AM Go.TM
def row4 {α:Type}[DecidableEq α](x y:Int×α×Int×Int):(decide (x.1=y.1)&&(decide (x.2.1=y.2.1)&&(decide (x.2.2.1=y.2.2.1)&&(decide (x.2.2.2=y.2.2.2)&&true))))=decide (x=y):=by
 obtain⟨a,b,c,d⟩:=x;obtain⟨a',b',c',d'⟩:=y;simp only[zPi,zAt,Bool.decide_and]
def row3 (x y:Int×Int×Int):(decide (x.1=y.1)&&(decide (x.2.1=y.2.1)&&(decide (x.2.2=y.2.2)&&true)))=decide (x=y):=by
 obtain⟨a,b,c⟩:=x;obtain⟨a',b',c'⟩:=y;simp only[zPi,zAt,Bool.decide_and]
def row2 (x y:Int×Int):(decide (x.1=y.1)&&(decide (x.2=y.2)&&true))=decide (x=y):=by
 obtain⟨a,b⟩:=x;obtain⟨a',b'⟩:=y;simp only[zPi,zAt,Bool.decide_and]
def q152 (a b:List Cst)(ha:a.length≤1048576):F152 (a,b)=some (decide (a=b)):=by
 simp only[F152,zAU,zAG]
 by_cases hl:(a.length:Int)=b.length
 ·have hl':a.length=b.length:=by omega
  rw[if_pos hl];refine(zBi (fun i=>(a,b,(i:Int))) () false a b hl' rfl ?_ ?_).trans zKG
  ·simp only[zIl,zDf,zAI,if_false]
  ·intro i h h';have hi:(i:Int)<a.length:=by omega
   have hi2:(i:Int)<b.length:=by omega
   have h0:(0:Int)≤i:=by omega
   simp (discharger:=omega) only[hi,hl.symm,h0,zDt,zAJ,if_true,zAD,zTn,zAK,row4,zAG,wI]
   rfl
 ·rw[if_neg hl];have:a≠b:=fun h=>hl (by rw[h])
  simp[this]
def q282 (a b:List Knd)(ha:a.length≤1048576):F282 (a,b)=some (decide (a=b)):=by
 simp only[F282,zAU,zAG]
 by_cases hl:(a.length:Int)=b.length
 ·have hl':a.length=b.length:=by omega
  rw[if_pos hl];refine(zBi (fun i=>(a,b,(i:Int))) () false a b hl' rfl ?_ ?_).trans zKG
  ·simp only[zIl,zDf,zAI,if_false]
  ·intro i h h';have hi:(i:Int)<a.length:=by omega
   have hi2:(i:Int)<b.length:=by omega
   have h0:(0:Int)≤i:=by omega
   simp (discharger:=omega) only[hi,hl.symm,h0,zDt,zAJ,if_true,zAD,zTn,zAK,row2,zAG,wI]
   rfl
 ·rw[if_neg hl];have:a≠b:=fun h=>hl (by rw[h])
  simp[this]
def q147 (a b:List Cst)(ha:a.length≤1048576):F147 (a,b)=some (decide (a=b)):=by
 simp only[F147,zAU,zAG]
 by_cases hl:(a.length:Int)=b.length
 ·have hl':a.length=b.length:=by omega
  rw[if_pos hl];refine(zBi (fun i=>(a,b,(a.length:Int),(i:Int))) () false a b hl' rfl ?_ ?_).trans zKG
  ·simp only[zIl,zDf,zAI,if_false]
  ·intro i h h';have hi:(i:Int)<a.length:=by omega
   have hi2:(i:Int)<b.length:=by omega
   have h0:(0:Int)≤i:=by omega
   simp (discharger:=omega) only[hi,hl.symm,h0,zDt,zAJ,if_true,zAD,zTn,zAK,row4,zAG,wI]
   rfl
 ·rw[if_neg hl];have:a≠b:=fun h=>hl (by rw[h])
  simp[this]
def q148 (a b:List Int)(ha:a.length≤1048576):F148 (a,b)=some (decide (a=b)):=by
 simp only[F148,zAU,zAG]
 by_cases hl:(a.length:Int)=b.length
 ·have hl':a.length=b.length:=by omega
  rw[if_pos hl];refine(zBi (fun i=>(a,b,(a.length:Int),(i:Int))) () false a b hl' rfl ?_ ?_).trans zKG
  ·simp only[zIl,zDf,zAI,if_false]
  ·intro i h h';have hi:(i:Int)<a.length:=by omega
   have hi2:(i:Int)<b.length:=by omega
   have h0:(0:Int)≤i:=by omega
   simp (discharger:=omega) only[hi,hl.symm,h0,zDt,zAJ,if_true,zAD,zTn,zAK,zAG,wI]
   rfl
 ·rw[if_neg hl];have:a≠b:=fun h=>hl (by rw[h])
  simp[this]
def q149 (a b:List Fld)(ha:a.length≤1048576):F149 (a,b)=some (decide (a=b)):=by
 simp only[F149,zAU,zAG]
 by_cases hl:(a.length:Int)=b.length
 ·have hl':a.length=b.length:=by omega
  rw[if_pos hl];refine(zBi (fun i=>(a,b,(a.length:Int),(i:Int))) () false a b hl' rfl ?_ ?_).trans zKG
  ·simp only[zIl,zDf,zAI,if_false]
  ·intro i h h';have hi:(i:Int)<a.length:=by omega
   have hi2:(i:Int)<b.length:=by omega
   have h0:(0:Int)≤i:=by omega
   simp (discharger:=omega) only[hi,hl.symm,h0,zDt,zAJ,if_true,zAD,zTn,zAK,row3,zAG,wI]
   rfl
 ·rw[if_neg hl];have:a≠b:=fun h=>hl (by rw[h])
  simp[this]
def q224 (a b:List Trp)(ha:a.length≤1048576):F224 (a,b)=some (decide (a=b)):=by
 simp only[F224,zAU,zAG]
 by_cases hl:(a.length:Int)=b.length
 ·have hl':a.length=b.length:=by omega
  rw[if_pos hl];refine(zBi (fun i=>(a,b,(a.length:Int),(i:Int))) () false a b hl' rfl ?_ ?_).trans zKG
  ·simp only[zIl,zDf,zAI,if_false]
  ·intro i h h';have hi:(i:Int)<a.length:=by omega
   have hi2:(i:Int)<b.length:=by omega
   have h0:(0:Int)≤i:=by omega
   simp (discharger:=omega) only[hi,hl.symm,h0,zDt,zAJ,if_true,zAD,zTn,zAK,row4,zAG,wI]
   rfl
 ·rw[if_neg hl];have:a≠b:=fun h=>hl (by rw[h])
  simp[this]
def q227 (a b:List Knd)(ha:a.length≤1048576):F227 (a,b)=some (decide (a=b)):=by
 simp only[F227,zAU,zAG]
 by_cases hl:(a.length:Int)=b.length
 ·have hl':a.length=b.length:=by omega
  rw[if_pos hl];refine(zBi (fun i=>(a,b,(a.length:Int),(i:Int))) () false a b hl' rfl ?_ ?_).trans zKG
  ·simp only[zIl,zDf,zAI,if_false]
  ·intro i h h';have hi:(i:Int)<a.length:=by omega
   have hi2:(i:Int)<b.length:=by omega
   have h0:(0:Int)≤i:=by omega
   simp (discharger:=omega) only[hi,hl.symm,h0,zDt,zAJ,if_true,zAD,zTn,zAK,row2,zAG,wI]
   rfl
 ·rw[if_neg hl];have:a≠b:=fun h=>hl (by rw[h])
  simp[this]
def q226 (x y:Frm)(h:bFrm x):F226 (x,y)=some (decide (x=y)):=by
 obtain⟨a0,a1,a2⟩:=x;obtain⟨b0,b1,b2⟩:=y;simp only[F226,q227 a1 b1 h.1,q227 a2 b2 h.2,zAB,zAG,zPi]
 by_cases h0:a0=b0<;>by_cases h1:a1=b1<;>by_cases h2:a2=b2<;>simp[h0,h1,h2]
def q227225 (a b:List Frm)(ha:a.length≤1048576)(hb:∀ x∈a,bFrm x):F227225 (a,b)=some (decide (a=b)):=by
 simp only[F227225,zAU,zAG]
 by_cases hl:(a.length:Int)=b.length
 ·have hl':a.length=b.length:=by omega
  rw[if_pos hl];refine(zBi (fun i=>(b,a,(a.length:Int),(i:Int))) () false a b hl' rfl ?_ ?_).trans zKG
  ·simp only[zIl,zDf,zAI,if_false]
  ·intro i h h';have hi:(i:Int)<a.length:=by omega
   have hi2:(i:Int)<b.length:=by omega
   have h0:(0:Int)≤i:=by omega
   have hq:=q226 a[i] b[i] (hb _ (List.getElem_mem h));simp (discharger:=omega) only[hi,hl.symm,h0,zDt,zAJ,if_true,zAD,zTn,zAK,hq,zAB,zAG,wI]
   rfl
 ·rw[if_neg hl];have:a≠b:=fun h=>hl (by rw[h])
  simp[this]
def q151 (x y:Mth)(h:bMth x):F151 (x,y)=some (decide (x=y)):=by
 obtain⟨a0,a1,a2,a3,a4,a5,a6,a7⟩:=x;obtain⟨b0,b1,b2,b3,b4,b5,b6,b7⟩:=y;obtain⟨h1,h2,h3,h4⟩:=h;simp only at h1 h2 h3 h4;simp only[F151,q224 a6 b6 h2,q227225 a7 b7 h3 h4,zAB,zAG,zPi]
 by_cases h0:a0=b0
 ·by_cases h1:a1=b1
  ·by_cases h2:a2=b2
   ·by_cases h3:a3=b3
    ·by_cases h4:a4=b4
     ·by_cases h5:a5=b5
      ·by_cases h6:a6=b6<;>by_cases h7:a7=b7<;>simp[*]
      ·simp[*]
     ·simp[*]
    ·simp[*]
   ·simp[*]
  ·simp[*]
 ·simp[*]
def q152150 (a b:List Mth)(ha:a.length≤1048576)(hb:∀ x∈a,bMth x):F152150 (a,b)=some (decide (a=b)):=by
 simp only[F152150,zAU,zAG]
 by_cases hl:(a.length:Int)=b.length
 ·have hl':a.length=b.length:=by omega
  rw[if_pos hl];refine(zBi (fun i=>(b,a,(a.length:Int),(i:Int))) () false a b hl' rfl ?_ ?_).trans zKG
  ·simp only[zIl,zDf,zAI,if_false]
  ·intro i h h';have hi:(i:Int)<a.length:=by omega
   have hi2:(i:Int)<b.length:=by omega
   have h0:(0:Int)≤i:=by omega
   have hq:=q151 a[i] b[i] (hb _ (List.getElem_mem h));simp (discharger:=omega) only[hi,hl.symm,h0,zDt,zAJ,if_true,zAD,zTn,zAK,hq,zAB,zAG,wI]
   rfl
 ·rw[if_neg hl];have:a≠b:=fun h=>hl (by rw[h])
  simp[this]
def q68 (x y:Cls)(h:bCls x):F68 (x,y)=some (decide (x=y)):=by
 obtain⟨a0,a1,a2,a3,a4,a5,a6⟩:=x;obtain⟨b0,b1,b2,b3,b4,b5,b6⟩:=y;obtain⟨⟨h1,_⟩,h2,h3,h4,h5⟩:=h;simp only at h1 h2 h3 h4 h5;simp only[F68,q147 a0 b0 h1,q148 a4 b4 h2,q149 a5 b5 h3,q152150 a6 b6 h4 h5,zAB,zAG,zDe,zPi]
 by_cases h0:a0=b0
 ·by_cases h1:a1=b1
  ·by_cases h2:a2=b2
   ·by_cases h3:a3=b3
    ·by_cases h4:a4=b4
     ·by_cases h5:a5=b5<;>by_cases h6:a6=b6<;>simp[*]
     ·simp[*]
    ·simp[*]
   ·simp[*]
  ·simp[*]
 ·simp[*]
end Go.Proofs.YtdpapeledldifaaGreat
end
section
namespace Go.Proofs.YtdpapeledldifaaGreat
open Go Go.AM Go.TM
def q228 (a b:List Frm)(ha:a.length≤1048576)(hb:∀ x∈a,bFrm x):F228 (a,b)=some (decide (a=b)):=by
 simp only[F228,zAU,zAG]
 by_cases hl:(a.length:Int)=b.length
 ·have hl':a.length=b.length:=by omega
  rw[if_pos hl];refine(zBi (fun i=>(a,b,(i:Int))) () false a b hl' rfl ?_ ?_).trans zKG
  ·simp only[zIl,zDf,zAI,if_false]
  ·intro i h h';have hi:(i:Int)<a.length:=by omega
   have h0:(0:Int)≤i:=by omega
   have b1:=hb _ (List.getElem_mem h);have hq1:=q282 a[i].2.1 b[i].2.1 b1.1;have hq2:=q282 a[i].2.2 b[i].2.2 b1.2;simp (discharger:=omega) only[hi,hl.symm,h0,zDt,zAJ,if_true,zAD,zTn,zAK,hq1,hq2,zAB,zAU,zAG,zAs,wI]
   generalize a[i]=x;generalize b[i]=y;obtain⟨x0,x1,x2⟩:=x;obtain⟨y0,y1,y2⟩:=y;by_cases e0:x0=y0<;>by_cases e1:x1=y1<;>by_cases e2:x2=y2<;>simp (discharger:=omega) only[e0,e1,e2,zPi,if_true,if_false,and_true,and_false,zAC,zAH,true_and,false_and,wI]<;>rfl
 ·rw[if_neg hl];have:a≠b:=fun h=>hl (by rw[h])
  simp[this]
def zXH {p q:Prop}[Decidable p][Decidable q]:(if p then some (decide q)else some false:Option Bool)=some (decide (p∧q)):=by by_cases h:p<;>simp[h]
def q153 (x y:Mth)(h:bMth x):F153 (x,y)=some (decide (x=y)):=by
 obtain⟨a0,a1,a2,a3,a4,a5,a6,a7⟩:=x;obtain⟨b0,b1,b2,b3,b4,b5,b6,b7⟩:=y;obtain⟨h1,h2,h3,h4⟩:=h;simp only at h1 h2 h3 h4;simp only[F153,q228 a7 b7 h3 h4,zAU,zAG,zAs,zAH,zAC,zPi]
 by_cases e0:a0=b0
 ·by_cases e1:a1=b1
  ·by_cases e2:a2=b2
   ·by_cases e3:a3=b3
    ·by_cases e4:a4=b4
     ·by_cases e5:a5=b5
      ·by_cases hl:(a6.length:Int)=b6.length
       ·have hl':a6.length=b6.length:=by omega
        simp only[e0,e1,e2,e3,e4,e5,hl,if_true,true_and]
        refine(zBi (fun i=>((i:Int),(b0,b1,b2,b3,b4,b5,a6,a7),b0,b1,b2,b3,b4,b5,b6,b7)) ((b0,b1,b2,b3,b4,b5,a6,a7),b0,b1,b2,b3,b4,b5,b6,b7) false a6 b6 hl' rfl ?_ ?_).trans ?_
        ·simp only[zIl,if_false]
        ·intro i h h';have hi:(i:Int)<a6.length:=by omega
         have h0:(0:Int)≤i:=by omega
         simp (discharger:=omega) only[hi,hl.symm,h0,zDt,zAJ,if_true,zAD,zTn,zAK,row4,zAG,wI]
         rfl
        ·simp only[q228 a7 b7 h3 h4,zAB]
         exact zXH
       ·have:a6≠b6:=fun h=>hl (by rw[h])
        simp[*]
      ·simp[*]
     ·simp[*]
    ·simp[*]
   ·simp[*]
  ·simp[*]
 ·simp[*]
def q70 (x y:Cls)(h:bCls x):F70 (x,y)=some (decide (x=y)):=by
 obtain⟨a0,a1,a2,a3,a4,a5,a6⟩:=x;obtain⟨b0,b1,b2,b3,b4,b5,b6⟩:=y;obtain⟨⟨h1,_⟩,h2,h3,h4,h5⟩:=h;simp only at h1 h2 h3 h4 h5;simp only[F70,q152 a0 b0 h1,zAB,zAU,zAG,zAs,zAH,zAC,zPi]
 by_cases e0:a0=b0
 ·by_cases e1:a1=b1
  ·by_cases e2:a2=b2
   ·by_cases e3:a3=b3
    ·by_cases l4:(a4.length:Int)=b4.length
     ·by_cases l5:(a5.length:Int)=b5.length
      ·by_cases l6:(a6.length:Int)=b6.length
       ·have l4':a4.length=b4.length:=by omega
        have l5':a5.length=b5.length:=by omega
        have l6':a6.length=b6.length:=by omega
        simp only[e0,e1,e2,e3,l4,l5,l6,if_true,true_and]
        refine(zBi (fun i=>((i:Int),(b0,b1,b2,b3,a4,a5,a6),b0,b1,b2,b3,b4,b5,b6)) ((b0,b1,b2,b3,a4,a5,a6),b0,b1,b2,b3,b4,b5,b6) false a4 b4 l4' rfl ?_ ?_).trans ?_
        ·simp only[zIl,if_false]
        ·intro i h h';have hi:(i:Int)<a4.length:=by omega
         have h0:(0:Int)≤i:=by omega
         simp (discharger:=omega) only[hi,l4.symm,h0,zDt,zAJ,if_true,zAD,zTn,zAK,zAG,wI]
         rfl
        refine Eq.trans ?_ zXH;by_cases e4:a4=b4
        ·rw[if_pos e4,if_pos e4];simp only
         refine(zBi (fun i=>((i:Int),(b0,b1,b2,b3,a4,a5,a6),b0,b1,b2,b3,b4,b5,b6)) ((b0,b1,b2,b3,a4,a5,a6),b0,b1,b2,b3,b4,b5,b6) false a5 b5 l5' rfl ?_ ?_).trans ?_
         ·simp only[zIl,if_false]
         ·intro i h h';have hi:(i:Int)<a5.length:=by omega
          have h0:(0:Int)≤i:=by omega
          simp (discharger:=omega) only[hi,l5.symm,h0,zDt,zAJ,if_true,zAD,zTn,zAK,row3,zAG,wI]
          rfl
         refine Eq.trans ?_ zXH;by_cases e5:a5=b5
         ·rw[if_pos e5,if_pos e5];simp only
          refine(zBi (fun i=>((i:Int),(b0,b1,b2,b3,a4,a5,a6),b0,b1,b2,b3,b4,b5,b6)) () false a6 b6 l6' rfl ?_ ?_).trans zKG
          ·simp only[zIl,if_false]
          ·intro i h h';have hi:(i:Int)<a6.length:=by omega
           have h0:(0:Int)≤i:=by omega
           have hq:=q153 a6[i] b6[i] (h5 _ (List.getElem_mem h));simp (discharger:=omega) only[hi,l6.symm,h0,zDt,zAJ,if_true,zAD,zTn,zAK,hq,zAB,zAG,wI]
           rfl
         ·rw[if_neg e5,if_neg e5]
        ·rw[if_neg e4,if_neg e4]
       ·have:a6≠b6:=fun h=>l6 (by rw[h])
        simp[*]
      ·have:a5≠b5:=fun h=>l5 (by rw[h])
       simp[*]
     ·have:a4≠b4:=fun h=>l4 (by rw[h])
      simp[*]
    ·simp[*]
   ·simp[*]
  ·simp[*]
 ·simp[*]
end Go.Proofs.YtdpapeledldifaaGreat
namespace Go.TM
open Go.AM
section
variable {α X Y R:Type}
def zOd {f:X→Option (X⊕(Y⊕R))}(mk:Nat→X)(fin:Y)(no:R)(l:List α)(p:α→Bool){x0:X}(hx:x0=mk 0){k:Y→Option R}
  (hend:f (mk l.length)=some (.inr (.inl fin)))
  (hstep:∀i (h:i<l.length),f (mk i)=if p l[i]=true then some (.inl (mk (i+1)))else some (.inr (.inr no))) :
  bindE (zAE f x0) k=if l.all p=true then k fin else some no:=by
 have key:∀(m i:Nat),i+m=l.length→zAE f (mk i)=some (if(l.drop i).all p=true then .inl fin else .inr no):=by
  intro m
  induction m with
  | zero=>
    intro i hi;have:i=l.length:=by omega
    subst this;rw[zAd,hend,List.drop_eq_nil_of_le (zLr _)];rfl
  | succ m ih=>
    intro i hi;have h:i<l.length:=by omega
    rw[zAd,hstep i h,zBf h,List.all_cons];cases hp:p l[i]
    ·simp
    ·simp only[if_true,Bool.true_and]
     exact ih (i+1) (by omega)
 rw[hx,key l.length 0 (by omega),List.drop_zero];by_cases h:l.all p=true
 ·simp only[h,if_true,zAC]
 ·simp only[h,if_false,zAH,zFt]
end
end Go.TM
namespace Go.Proofs.YtdpapeledldifaaGreat
open Go Go.AM Go.TM
def smF (f:Frm):Bool:=decide (f.2.1.length≤8)&&decide (f.2.2.length≤8)
def smM (m:Mth):Bool:=decide (m.2.2.2.2.2.1.length≤120)&&(decide (m.2.2.2.2.2.2.1.length≤3)&&(decide (m.2.2.2.2.2.2.2.length≤8)&&m.2.2.2.2.2.2.2.all smF))
def sm (c:Cls):Bool:=decide (few c)&&(c.1.all (fun x=>decide (x.2.1.length≤255))&&c.2.2.2.2.2.2.all smM)
def q66 (c:Cls)(h:bCls c):F66 c=some (sm c):=by
 obtain⟨c0,c1,c2,c3,c4,c5,c6⟩:=c;obtain⟨⟨a1,a2⟩,a3,a4,a5,a6⟩:=h;simp only at a1 a2 a3 a4 a5 a6;simp only[F66,zAG,zAs,zAH,zAC]
 by_cases f1:(60:Int)<c0.length
 ·have:¬few (c0,c1,c2,c3,c4,c5,c6):=fun h=>by have:=h.1;simp only at this;omega
  simp[f1,sm,this]
 by_cases f2:(3:Int)<c4.length
 ·have:¬few (c0,c1,c2,c3,c4,c5,c6):=fun h=>by have:=h.2.1;simp only at this;omega
  simp[f1,f2,sm,this]
 by_cases f3:(5:Int)<c5.length
 ·have:¬few (c0,c1,c2,c3,c4,c5,c6):=fun h=>by have:=h.2.2.1;simp only at this;omega
  simp[f1,f2,f3,sm,this]
 by_cases f4:(6:Int)<c6.length
 ·have:¬few (c0,c1,c2,c3,c4,c5,c6):=fun h=>by have:=h.2.2.2;simp only at this;omega
  simp[f1,f2,f3,f4,sm,this]
 have hf:few (c0,c1,c2,c3,c4,c5,c6):=⟨by simp only;omega,by simp only;omega,by simp only;omega,by simp only;omega⟩
 simp only[f1,f2,f3,f4,if_false,sm,hf,zDt,Bool.true_and]
 refine(zOd (fun i=>(c0,(c0.length:Int),(i:Int),c0,c1,c2,c3,c4,c5,c6)) (c0,c1,c2,c3,c4,c5,c6) false c0 (fun x=>decide (x.2.1.length≤255)) rfl ?_ ?_).trans ?_
 ·simp only[zIl,if_false]
 ·intro i h;have hi:(i:Int)<c0.length:=by omega
  have h0:(0:Int)≤i:=by omega
  simp (discharger:=omega) only[hi,h0,zDt,if_true,zAD,zTn,zAK,zAG,wI,zDe]
  by_cases hx:(255:Int)<c0[i].2.1.length
  ·rw[if_pos hx,if_neg (by omega)]
  ·rw[if_neg hx,if_pos (by omega)];rfl
 by_cases hp:(c0.all fun x=>decide (x.2.1.length≤255))=true
 ·rw[if_pos hp,hp];simp only[Bool.true_and]
  refine(zOd (fun i=>(c6,(c6.length:Int),(i:Int))) () false c6 smM rfl ?_ ?_).trans ?_
  ·simp only[zIl,if_false]
  ·intro i h;have hi:(i:Int)<c6.length:=by omega
   have h0:(0:Int)≤i:=by omega
   have hb:=a6 _ (List.getElem_mem h);simp (discharger:=omega) only[hi,h0,zDt,if_true,zAD,zTn,zAK,zAG,wI,zAs,zAH,zAC]
   generalize c6[i]=m at hb;obtain⟨m0,m1,m2,m3,m4,m5,m6,m7⟩:=m;obtain⟨b1,b2,b3,b4⟩:=hb;simp only at b1 b2 b3 b4 ⊢;by_cases g1:(120:Int)<m5.length
   ·have:¬m5.length≤120:=by omega
    simp[g1,smM,this]
   by_cases g2:(3:Int)<m6.length
   ·have:¬m6.length≤3:=by omega
    simp[g1,g2,smM,this]
   by_cases g3:(8:Int)<m7.length
   ·have:¬m7.length≤8:=by omega
    simp[g1,g2,g3,smM,this]
   simp only[g1,g2,g3,if_false,smM,show m5.length≤120 by omega,show m6.length≤3 by omega,show m7.length≤8 by omega,zDt,Bool.true_and]
   refine(congrArg (bindE · _) (zOd (fun j=>(c6,(c6.length:Int),(i:Int),m7,(m7.length:Int),(j:Int))) (c6,(c6.length:Int),(i:Int)) (.inr (.inr (.inr false))) m7 smF rfl ?_ ?_)).trans ?_
   ·simp only[zIl,if_false]
   ·intro j h;have hj:(j:Int)<m7.length:=by omega
    have h0:(0:Int)≤j:=by omega
    simp (discharger:=omega) only[hj,h0,zDt,if_true,zAD,zTn,zAK,zAs,zAH,zAC,wI]
    generalize m7[j]=fr;by_cases u1:(8:Int)<fr.2.1.length
    ·have:¬fr.2.1.length≤8:=by omega
     simp[u1,smF,this]
    by_cases u2:(8:Int)<fr.2.2.length
    ·have:¬fr.2.2.length≤8:=by omega
     simp[u1,u2,smF,this]
    simp only[u1,u2,if_false,smF,show fr.2.1.length≤8 by omega,show fr.2.2.length≤8 by omega,zDt,Bool.true_and,if_true]
    rfl
   ·by_cases hq:m7.all smF=true
    ·simp (discharger:=omega) only[hq,if_true,zAC,wI];rfl
    ·simp only[hq,if_false,zAH,zFt]
  ·by_cases hq:c6.all smM=true<;>simp[hq]
 ·rw[if_neg hp];simp only[Bool.not_eq_true]at hp;rw[hp];rfl
def sm_few {c:Cls}(h:sm c=true):few c:=by
 simp only[sm,zBa,zDe]at h;exact h.1
def sm_fit {c:Cls}(h:fCls c):sm c=true:=by
 obtain⟨h0,h1,_,_,_,_,_,h7⟩:=h;simp only[sm,zBa,zDe,List.all_eq_true]
 refine⟨h0,fun x hx=>(h1 x hx).2.1,fun m hm=>?_⟩;obtain⟨_,_,_,_,_,g1,⟨g2,_⟩,g3,g4⟩:=h7 m hm;simp only[smM,smF,zBa,zDe,List.all_eq_true]
 exact⟨g1,g2,g3,fun f hf=>⟨(g4 f hf).2.1.1,(g4 f hf).2.2.1⟩⟩
noncomputable def put (c:Cls):List UInt8:=by
 classical
 exact if fCls c∧(pCls tI abI c).length≤900∧gCls (pCls tI abI c)=some (c,[])then pCls tI abI c else []
def zRX {c:Cls}(h:fCls c∧(pCls tI abI c).length≤900∧gCls (pCls tI abI c)=some (c,[])):put c=pCls tI abI c:=by
 unfold put;rw[if_pos h]
def zFM {c:Cls}(h:¬ (fCls c∧(pCls tI abI c).length≤900∧gCls (pCls tI abI c)=some (c,[]))):put c=[]:=by
 unfold put;rw[if_neg h]
def put20 (c:Cls)(h:bCls c):F20 c=some (put c):=by
 obtain⟨c0,c1,c2,c3,c4,c5,c6⟩:=c;simp only[F20,q66 _ h,zAB,zAU]
 cases hs:sm (c0,c1,c2,c3,c4,c5,c6)with
 | false=>
   rw[zAI,zFM];intro hh;rw[sm_fit hh.1]at hs;cases hs
 | true=>
   rw[zAJ,p67 _ h (sm_few hs)];simp only[zAB]
   by_cases hl:(pCls tI abI (c0,c1,c2,c3,c4,c5,c6)).length≤900
   ·have hg:=i17 _ hl;unfold zEz at hg;rw[hg];cases hc:gCls (pCls tI abI (c0,c1,c2,c3,c4,c5,c6))with
    | none=>
      simp only[zAB,zAI]
      rw[zFM];rintro⟨_,_,h3⟩;rw[hc]at h3;cases h3
    | some p=>
      obtain⟨d,r⟩:=p;cases r with
      | cons x r=>
        simp only[zAB,zAI]
        rw[zFM];rintro⟨_,_,h3⟩;rw[hc]at h3;cases h3
      | nil=>
        obtain⟨d0,d1,d2,d3,d4,d5,d6⟩:=d;simp only[zAB,zAJ]
        rw[q68 _ _ h,zAB,zAG];by_cases he:(c0,c1,c2,c3,c4,c5,c6)=(d0,d1,d2,d3,d4,d5,d6)
        ·rw[if_pos he,zRX];refine⟨?_,hl,?_⟩
         ·rw[he];exact zOJ _ _ _ hc
         ·rw[hc,he]
        ·rw[if_neg he,zFM];rintro⟨_,_,h3⟩;rw[hc]at h3;simp only[zSe,zPi]at h3;exact he (by simp only[zPi];obtain⟨⟨k0,k1,k2,k3,k4,k5,k6⟩,_⟩:=h3;exact⟨k0.symm,k1.symm,k2.symm,k3.symm,k4.symm,k5.symm,k6.symm⟩)
   ·have hn:(900:Int)<((pCls tI abI (c0,c1,c2,c3,c4,c5,c6)).length:Int):=by omega
    simp only[F17,hn,zDt,zAJ,zAB,zAI]
    rw[zFM];rintro⟨_,h2,_⟩;exact hl h2
def few69 (c:Cls):F69 c=some (decide (few c)):=by
 obtain⟨c0,c1,c2,c3,c4,c5,c6⟩:=c;have hf:few (c0,c1,c2,c3,c4,c5,c6)↔(c0.length≤60∧c4.length≤3∧c5.length≤5∧c6.length≤6):=Iff.rfl;simp only[F69,zAG]
 repeat' split
 all_goals
  rw[zSe,Bool.eq_iff_iff,decide_eq_true_iff (p:=few _),hf]
  first
   |(rw[decide_eq_true_iff];omega)
   |(constructor<;>intro hh<;>first|omega|cases hh)
end Go.Proofs.YtdpapeledldifaaGreat
end
namespace Go.Proofs.YtdpapeledldifaaGreat
section
open Go Go.AM Go.TM
def zXZ {c:Cls}(h:fCls c):few c:=h.1
def zUr {c:Cls}(h:fCls c):bCls c:=by
 obtain⟨⟨f1,f2,f3,f4⟩,h1,_,_,_,_,_,h7⟩:=h;refine⟨⟨by omega,fun x hx=>?_⟩,by omega,by omega,by omega,fun m hm=>?_⟩
 ·have:=(h1 x hx).2.1;simp only[bCst];omega
 ·obtain⟨_,_,_,_,_,g1,⟨g2,_⟩,g3,g4⟩:=h7 m hm;refine⟨by omega,by omega,by omega,fun f hf=>?_⟩;obtain⟨_,⟨k1,_⟩,⟨k2,_⟩⟩:=g4 f hf;simp only[bFrm,zHe];omega
def get63 (l:List UInt8)(hl:l.length≤900):∃b c,F63 l=some (b,c)∧(b=true→gCls l=some (c,[])∧pCls tS abS c=l)∧(∀c',gCls l=some (c',[])→pCls tS abS c'=l→b=true):=by
 have hn:¬((900:Int)<(l.length:Int)):=by omega
 simp only[F63,hn,zDf,zAI]
 obtain⟨v,⟨s1,s2,s3⟩,e1,⟨r1,r2,r3,_,r5,r6⟩,e3⟩:=s142 (s0:=l) (l,0,false) (some l) ⟨rfl,by simp,by simp,hl,(fun h=>by cases h),fun l' h=>by
  simp only[zSe]at h;exact⟨rfl,by rw[←h];rfl⟩⟩
 rw[e1];obtain⟨y,y1,y2,y3,y4,y5,x⟩:=v;simp only[zAB]
 simp only at r1 r2 r3 r5 r6;subst r1;cases hb:gCls s1 with
 | none=>
   have:s3=true:=r5 (by rw[zOb,hb];rfl);subst this;exact⟨_,_,rfl,(fun h=>by cases h),fun c' h=>by cases h⟩
 | some p=>
   obtain⟨c,r⟩:=p;obtain⟨h3,h4⟩:=r6 r (by rw[zOb,hb];rfl);have hv:=e3 c r (by rw[zOb,hb]);subst h3;simp only[zAI,zAU,zAG]
   by_cases hs:s2=(s1.length:Int)
   ·have hr:r=[]:=by rw[h4];exact List.drop_eq_nil_of_le (by omega)
    subst hr;rw[if_pos hs];have hf:fCls (y,y1,y2,y3,y4,y5,x):=by rw[hv];exact zOJ _ _ _ hb
    rw[p55 _ (zUr hf) (zXZ hf)];simp only[zAB]
    by_cases hw:pCls tS abS (y,y1,y2,y3,y4,y5,x)=s1
    ·rw[if_pos hw];exact⟨_,_,rfl,(fun _=>⟨by rw[hv],hw⟩),fun _ _ _=>rfl⟩
    ·rw[if_neg hw];refine⟨_,_,rfl,(fun h=>by cases h),fun c' h1 h2=>?_⟩;simp only[zSe,zPi,and_true]at h1;rw[hv,h1]at hw;exact absurd h2 hw
   ·rw[if_neg hs];refine⟨_,_,rfl,(fun h=>by cases h),fun c' h1 h2=>?_⟩;simp only[zSe,zPi]at h1;have hr:r=[]:=h1.2;rw[hr]at h4;have:=congrArg List.length h4;simp only[zLn,zLd]at this;omega
def put22 (c:Cls)(h:bCls c):F22 c=some (put c):=by
 obtain⟨c0,gc1,gc2,gc3,gc4,gc5,gc6⟩:=c;simp only[F22,few69,zAB,zAU,zAG]
 by_cases hf:few (c0,gc1,gc2,gc3,gc4,gc5,gc6)
 ·rw[if_pos hf,p55 _ h hf];simp only[zAB]
  by_cases hl:(pCls tS abS (c0,gc1,gc2,gc3,gc4,gc5,gc6)).length≤900
  ·obtain⟨b,d,e,h1,h2⟩:=get63 _ hl;rw[e];obtain⟨d0,d1,d2,d3,d4,d5,d6⟩:=d;simp only[zAB]
   cases b with
   | false=>
     rw[zAI,zFM];rintro⟨q1,q2,q3⟩;rw[←zKV _ q1]at q3;cases h2 _ q3 rfl
   | true=>
     obtain⟨g1,g2⟩:=h1 rfl;have hd:=zOJ _ _ _ g1;rw[zAJ,q70 _ _ (zUr hd),zAB,zAG];by_cases he:(d0,d1,d2,d3,d4,d5,d6)=(c0,gc1,gc2,gc3,gc4,gc5,gc6)
     ·rw[if_pos he];rw[he]at hd g1;have:=zKV _ hd;rw[zRX,this];rw[this]at g1 hl;exact⟨hd,hl,g1⟩
     ·rw[if_neg he,zFM];rintro⟨q1,q2,q3⟩;rw[←zKV _ q1]at q3;rw[q3]at g1;simp only[zSe,zPi]at g1 he;obtain⟨⟨k0,k1,k2,k3,k4,k5,k6⟩,_⟩:=g1;exact he ⟨k0.symm,k1.symm,k2.symm,k3.symm,k4.symm,k5.symm,k6.symm⟩
  ·have hn:(900:Int)<((pCls tS abS (c0,gc1,gc2,gc3,gc4,gc5,gc6)).length:Int):=by omega
   simp only[F63,hn,zDt,zAJ,zAB,zAI]
   rw[zFM];rintro⟨q1,q2,q3⟩;rw[←zKV _ q1]at q2;exact hl q2
 ·rw[if_neg hf,zFM];exact fun hh=>hf hh.1.1
end
end Go.Proofs.YtdpapeledldifaaGreat
section
namespace Go.TM
open Go.AM
section
variable {α β X Y R:Type}{Q:R→Prop}
def Tot (r:Option R)(Q:R→Prop):Prop:=∃a,r=some a∧Q a
def Tot.ret {a:R}(h:Q a):Tot (some a) Q:=⟨a,rfl,h⟩
def Tot.mono {r:Option R}{Q':R→Prop}(h:Tot r Q)(g:∀ a,Q a→Q' a):Tot r Q':=by
 obtain⟨a,e,h⟩:=h;exact⟨a,e,g a h⟩
def Tot.bind {x:Option α}{P:α→Prop}{k:α→Option R}(h:Tot x P)(hk:∀ a,P a→Tot (k a) Q):Tot (zAA x k) Q:=by
 obtain⟨a,rfl,h⟩:=h;exact hk a h
def Tot.grd {t:Bool}{k:Option R}(ht:t=true)(h:Tot k Q):Tot (grdO t k) Q:=by subst ht;exact h
def Tot.cnd {t:Bool}{a b:Option R}(h1:t=true→Tot a Q)(h2:t=false→Tot b Q):Tot (cndO t a b) Q:=by
 cases t
 ·exact h2 rfl
 ·exact h1 rfl
def Tot.at {l:List α}{n:Nat}{k:α→Option R}(hn:n<l.length)(h:∀ x,l[n]? = some x→Tot (k x) Q):Tot (atO l n k) Q:=by
 have e:l[n]? = some l[n]:=zGe hn;show Tot (match l[n]? with|some x=>k x|none=>none) Q;rw[e];exact h _ e
def Tot.at' {l:List α}{n:Nat}{k:α→Option R}{x:α}(e:l[n]? = some x)(h:Tot (k x) Q):Tot (atO l n k) Q:=by
 show Tot (match l[n]? with|some x=>k x|none=>none) Q;rw[e];exact h
def Tot.seq {u:Option Unit}{k:Option R}(h1:Tot u fun _=>True)(h:Tot k Q):Tot (seqU u k) Q:=by
 obtain⟨a,rfl,_⟩:=h1;exact h
def Tot.bindE {x:Option (Y⊕R)}{k:Y→Option R}(P:Y→Prop)(h:Tot x (Sum.elim P Q))(hk:∀ y,P y→Tot (k y) Q):Tot (bindE x k) Q:=by
 obtain⟨a,rfl,h⟩:=h;cases a with
 |inl y=>exact hk y h
 |inr r=>exact⟨r,rfl,h⟩
def Tot.loop {f:X→Option (X⊕R)}(I:X→Prop)(μ:X→Nat)(hs:∀ x,I x→Tot (f x) (Sum.elim (fun y=>I y∧μ y<μ x) Q)):∀{x:X},I x→Tot (zAE f x) Q:=by
 have key:∀n x,μ x≤n→I x→Tot (zAE f x) Q:=by
  intro n
  induction n with
  | zero=>
    intro x hx hi;obtain⟨a,e,h⟩:=hs x hi;rw[zAd,e];cases a with
    |inl y=>exact absurd h.2 (by omega)
    |inr r=>exact⟨r,rfl,h⟩
  | succ n ih=>
    intro x hx hi;obtain⟨a,e,h⟩:=hs x hi;rw[zAd,e];cases a with
    |inl y=>exact ih y (by have:=h.2;omega) h.1
    |inr r=>exact⟨r,rfl,h⟩
 intro x hi;exact key _ x (zLr _) hi
def zCg (a:Option R):zBK a a=a:=by unfold zBK;rw[if_pos rfl]
end
end Go.TM
end
section
namespace Go.TM
def zCL {α:Type}{a:List α}:((a.length:Int)<(a.length:Int))=False:=by simp
end Go.TM
namespace Go.Proofs.YtdpapeledldifaaGreat
open Go Go.AM Go.TM
def wn {n:Nat}(h1:n≤1048576):IntKind.wrap .i64 ((n:Int)+1)=((n+1:Nat):Int):=by rw[wI (by omega) (by omega)];rfl
def gB {a b:Nat}(ha:a≤1048577)(hb:b≤128):(decide (a≤9223372036854775807)&&decide (a*b≤140737488355328))=true:=by
 have:a*b≤1048577*128:=Nat.mul_le_mul ha hb;simp only[zBa,zDe];omega
def j186 (m:Mth)(h:bMth m):F186 m=some m:=by
 obtain⟨m0,m1,m2,m3,m4,m5,m6,m7⟩:=m;obtain⟨_,h1,h2,h3⟩:=h;simp only at h1 h2 h3;simp only[F186,gB (a:=m6.length) (b:=32) (by omega) (by omega),zAD]
 refine(zBh (fun i=>((i:Int),(m0,m1,m2,m3,m4,m5,m6,m7),(0,0,0,0,0,[],[],[]),m0,m1,m2,m3,m4,m5,m6,m7.take i)) ((0,0,0,0,0,[],[],[]),m0,m1,m2,m3,m4,m5,m6,m7) m7.length rfl ?_ (fun i hi=>?_)).trans rfl
 ·simp only[zCL,zDf,zAI,List.take_length]
 ·have i1:(i:Int)<m7.length:=by omega
  obtain⟨b1,b2⟩:=h3 _ (List.getElem_mem hi);simp only[zHe]at b1 b2
  simp only[i1,zDt,zAJ,zNn,zAD,zTn,zAK hi,gB (a:=m7[i].2.1.length) (b:=16) (by omega) (by omega),gB (a:=m7[i].2.2.length) (b:=16) (by omega) (by omega),
   gB (a:=(m7.take i).length+1) (b:=56) (by simp only[zLt];omega) (by omega),wn (show i≤1048576 by omega),List.take_succ_eq_append_getElem hi]
def j93 (c:Cls)(h:bCls c):F93 c=some c:=by
 obtain⟨c0,c1,c2,c3,c4,c5,c6⟩:=c;obtain⟨⟨h1,_⟩,h2,h3,h4,h5⟩:=h;simp only at h1 h2 h3 h4 h5;simp only[F93,gB (a:=c0.length) (b:=40) (by omega) (by omega),gB (a:=c4.length) (b:=8) (by omega) (by omega),gB (a:=c5.length) (b:=24) (by omega) (by omega),zAD]
 refine(zBh (fun i=>((i:Int),(c0,c1,c2,c3,c4,c5,c6),([],0,0,0,[],[],[]),c0,c1,c2,c3,c4,c5,c6.take i)) (([],0,0,0,[],[],[]),c0,c1,c2,c3,c4,c5,c6) c6.length rfl ?_ (fun i hi=>?_)).trans rfl
 ·simp only[zCL,zDf,zAI,List.take_length]
 ·have i1:(i:Int)<c6.length:=by omega
  have e:=j186 _ (h5 _ (List.getElem_mem hi));have e':F186 (c6[i].1,c6[i].2.1,c6[i].2.2.1,c6[i].2.2.2.1,c6[i].2.2.2.2.1,c6[i].2.2.2.2.2.1,c6[i].2.2.2.2.2.2.1,c6[i].2.2.2.2.2.2.2)=some c6[i]:=e
  simp only[i1,zDt,zAJ,zNn,zAD,zTn,zAK hi,e',zAB,
   gB (a:=(c6.take i).length+1) (b:=104) (by simp only[zLt];omega) (by omega),wn (show i≤1048576 by omega),List.take_succ_eq_append_getElem hi]
def cl {α:Type}{b:Nat}(s:List α)(hl:s.length≤1048576)(hb:b≤128):cndO (decide (s.length=0)) (zBK (some []) (grdO (decide (s.length≤9223372036854775807)&&decide (s.length*b≤140737488355328)) (some s))) (grdO (decide (s.length≤9223372036854775807)&&decide (s.length*b≤140737488355328)) (some s))=some s:=by
 rw[gB (by omega) hb];cases s with
 |nil=>simp only[zLn,zDt,zAJ,zAD];exact zCg _
 |cons x l=>simp[zAD]
def j179 (l:List Cst)(h:l.length≤1048576):F179 l=some l:=cl l h (by omega)
def j180 (l:List Int)(h:l.length≤1048576):F180 l=some l:=cl l h (by omega)
def j181 (l:List Fld)(h:l.length≤1048576):F181 l=some l:=cl l h (by omega)
def j182 (l:List Mth)(h:l.length≤1048576):F182 l=some l:=cl l h (by omega)
def j183 (l:List Trp)(h:l.length≤1048576):F183 l=some l:=cl l h (by omega)
def j184 (l:List Frm)(h:l.length≤1048576):F184 l=some l:=cl l h (by omega)
def j185 (l:List Knd)(h:l.length≤1048576):F185 l=some l:=cl l h (by omega)
def j92 (c:Cls)(h:bCls c):F92 c=some c:=by
 obtain⟨c0,c1,c2,c3,c4,c5,c6⟩:=c;obtain⟨⟨h1,_⟩,h2,h3,h4,h5⟩:=h;simp only at h1 h2 h3 h4 h5;simp only[F92,j179 c0 h1,j180 c4 h2,j181 c5 h3,j182 c6 h4,zAB,zDt,zAD,zAS]
 refine(zBh (fun i=>((c6.length:Int),(i:Int),(c0,c1,c2,c3,c4,c5),([],0,0,0,[],[],[]),c6,i)) ((c0,c1,c2,c3,c4,c5,c6),([],0,0,0,[],[],[])) c6.length rfl ?_ (fun i hi=>?_)).trans rfl
 ·simp only[zCL,zDf,zAI,zDt,zAD,mapR_s]
 ·have i1:(i:Int)<c6.length:=by omega
  have hb:=h5 _ (List.getElem_mem hi);have hs:c6.set i c6[i]=c6:=List.set_getElem_self hi;simp only[i1,zDt,zAJ,zNn,zAD,zBs,zTn,zAK hi,zLr]
  generalize c6[i]=m at hb hs;obtain⟨m0,m1,m2,m3,m4,m5,m6,m7⟩:=m;obtain⟨_,b1,b2,b3⟩:=hb;simp only at b1 b2 b3;simp only[j183 m6 b1,j184 m7 b2,zAB,zAS,hi,zDt,zBs,zAD]
  refine(congrArg (bindE · _) (zBh (fun k=>((i:Int),(c6.length:Int),(i:Int),m7,(m7.length:Int),(k:Int),(c0,c1,c2,c3,c4,c5),([],0,0,0,[],[],[]),(c6,i,m0,m1,m2,m3,m4,m5,m6),m7,k))
   ((c6.length:Int),(i:Int),(c0,c1,c2,c3,c4,c5),([],0,0,0,[],[],[]),c6,i+1) m7.length rfl ?_ (fun k hk=>?_))).trans ?_
  ·simp only[zCL,zDf,zAI,zDt,zAD,mapR_s,hi,zBs,hs]
  ·have k1:(k:Int)<m7.length:=by omega
   obtain⟨d1,d2⟩:=b3 _ (List.getElem_mem hk);have ds:m7.set k (m7[k].1,m7[k].2.1,m7[k].2.2)=m7:=List.set_getElem_self hk;simp only[k1,i1,zDt,zAJ,zNn,zAD,zBs,zTn,zAK hk,hi,hk,j185 _ d1,j185 _ d2,zAB,zAS,beq_self_eq_true,ds,wn (show k≤1048576 by omega)]
  ·simp only[zAC,wn (show i≤1048576 by omega)]
end Go.Proofs.YtdpapeledldifaaGreat
end
namespace Go.Proofs.YtdpapeledldifaaGreat
section
open Go Go.AM Go.TM
def zOe {f:Int}(h0:0≤f)(h1:f≤255):abS f=true↔zFg f:=by
 unfold abS zFg;have e:Int.tdiv (Int.tmod f 16) 8=f % 16 / 8:=by rw[Int.tmod_eq_emod_of_nonneg h0,Int.tdiv_eq_ediv_of_nonneg (by omega)]
 rw[e,wI (by omega) (by omega),zDe]
end
end Go.Proofs.YtdpapeledldifaaGreat
namespace Go.Stow
section
def cut (c:UInt8):List UInt8→Option (List UInt8×List UInt8)
 |[]=>none
 |x::l=>if x=c then some ([],l)else(cut c l).map fun p=>(x::p.1,p.2)
def zHW {c:UInt8}:∀{l a b:List UInt8},cut c l=some (a,b)→l=a++c::b∧c ∉ a
 |[],a,b,h=>by cases h
 | x::l,a,b,h=>by
   unfold cut at h;by_cases hx:x=c
   ·rw[if_pos hx]at h;simp only[zSe,zPi]at h;obtain⟨rfl,rfl⟩:=h;exact⟨by rw[hx];rfl,by simp⟩
   ·rw[if_neg hx]at h;cases hc:cut c l with
    |none=>rw[hc]at h;cases h
    | some p=>
      obtain⟨a',b'⟩:=p;rw[hc]at h;simp only[Option.map_some,zSe,zPi]at h;obtain⟨rfl,rfl⟩:=h;obtain⟨h1,h2⟩:=zHW hc;exact⟨by rw[h1];rfl,by simp only[List.mem_cons,not_or];exact⟨fun h=>hx h.symm,h2⟩⟩
def zIv {c:UInt8}:∀{l:List UInt8},cut c l=none↔c ∉ l
 |[]=>by simp[cut]
 | x::l=>by
   unfold cut;by_cases hx:x=c
   ·rw[if_pos hx];simp[hx]
   ·rw[if_neg hx];simp only[Option.map_eq_none_iff,zIv,List.mem_cons,not_or]
    exact⟨fun h=>⟨fun h=>hx h.symm,h⟩,fun h=>h.2⟩
def cut_at {c:UInt8}:∀{a b:List UInt8},c ∉ a→cut c (a++c::b)=some (a,b)
 |[],b,_=>by simp[cut]
 | x::a,b,h=>by
   simp only[List.mem_cons,not_or]at h;rw[zCa];unfold cut;rw[if_neg fun e=>h.1 e.symm,cut_at h.2];rfl
def let1 (b:UInt8):Prop:=(97≤b.toNat∧b.toNat≤122)∨(65≤b.toNat∧b.toNat≤90)
def dig1 (b:UInt8):Prop:=48≤b.toNat∧b.toNat≤57
def Nm (s:List UInt8):Prop:=(1≤s.length∧s.length≤8)∧∀i (h:i<s.length),let1 s[i]∨(i≠0∧dig1 s[i])
noncomputable instance (s:List UInt8):Decidable (Nm s):=Classical.propDecidable _
def Nm.mem {s:List UInt8}(h:Nm s){b:UInt8}(hb:b∈s):let1 b∨dig1 b:=by
 obtain⟨i,hi,rfl⟩:=List.mem_iff_getElem.1 hb;rcases h.2 i hi with h|h
 ·exact .inl h
 ·exact .inr h.2
def Nm.no {s:List UInt8}(h:Nm s)(b:UInt8)(hb:¬ (let1 b∨dig1 b)):b ∉ s:=fun hm=>hb (h.mem hm)
def no41:¬(let1 41∨dig1 41):=by simp[let1,dig1]
def no59:¬(let1 59∨dig1 59):=by simp[let1,dig1]
def Nm.ne {s:List UInt8}(h:Nm s):s≠[]:=by rintro rfl;exact absurd h.1.1 (by simp)
def zHr:¬Nm []:=fun h=>h.ne rfl
def Tok (t:List UInt8):Prop:=t=[73]∨∃n,Nm n∧t=76::(n++[59])
noncomputable instance (s:List UInt8):Decidable (Tok s):=Classical.propDecidable _
def Tok.no41 {t:List UInt8}(h:Tok t):(41:UInt8) ∉ t:=by
 rcases h with rfl|⟨n,hn,rfl⟩
 ·simp
 ·have:=hn.no 41 Stow.no41;simp[this]
def zDd:¬Tok []:=by
 rintro(h|⟨n,_,h⟩)<;>cases h
noncomputable def one:List UInt8→Option (List UInt8×List UInt8)
 |[]=>none
 |x::r=>if x=73 then some ([73],r)else if x=76 then(cut 59 r).bind fun p=>if Nm p.1 then some (76::(p.1++[59]),p.2)else none else none
def zNp (x:UInt8)(r:List UInt8):one (x::r)=if x=73 then some ([73],r)else if x=76 then(cut 59 r).bind fun p=>if Nm p.1 then some (76::(p.1++[59]),p.2)else none else none:=rfl
def zCV {l t r:List UInt8}(h:one l=some (t,r)):l=t++r∧Tok t:=by
 cases l with
 |nil=>cases h
 | cons x l=>
   rw[zNp]at h;by_cases h1:x=73
   ·rw[if_pos h1]at h;simp only[zSe,zPi]at h;obtain⟨rfl,rfl⟩:=h;exact⟨by rw[h1];rfl,.inl rfl⟩
   ·rw[if_neg h1]at h;by_cases h2:x=76
    ·rw[if_pos h2]at h;cases hc:cut 59 l with
     |none=>rw[hc]at h;cases h
     | some p=>
       obtain⟨n,b⟩:=p;rw[hc,zOb]at h;by_cases hn:Nm n
       ·rw[if_pos hn]at h;simp only[zSe,zPi]at h;obtain⟨rfl,rfl⟩:=h;obtain⟨e,_⟩:=zHW hc;exact⟨by rw[h2,e];simp,.inr ⟨n,hn,rfl⟩⟩
       ·rw[if_neg hn]at h;cases h
    ·rw[if_neg h2]at h;cases h
def zNm {t:List UInt8}(h:Tok t)(r:List UInt8):one (t++r)=some (t,r):=by
 rcases h with rfl|⟨n,hn,rfl⟩
 ·rfl
 ·rw[zCa,zNp,if_neg (by decide),if_pos rfl];have:(n++[59])++r=n++59::r:=by simp
  rw[this,cut_at (hn.no 59 no59),zOb,if_pos hn]
def zNo {l:List UInt8}:one l=none↔∀t r,l=t++r→¬Tok t:=by
 constructor
 ·intro h t r e ht;rw[e,zNm ht]at h;cases h
 ·intro h;cases ho:one l with
  |none=>rfl
  | some p=>
    obtain⟨t,r⟩:=p;obtain⟨h1,h2⟩:=zCV ho;exact absurd h2 (h t r h1)
def zVq {s:List UInt8}:Tok s↔one s=some (s,[]):=by
 constructor
 ·intro h;have:=zNm h [];rwa[zAn]at this
 ·intro h;exact(zCV h).2
noncomputable def more:Nat→List UInt8→Option (List (List UInt8)×List UInt8)
 |_,[]=>none
 |0,x::l=>if x=41 then some ([],l)else none
 |k+1,x::l=>if x=41 then some ([],l)else(one (x::l)).bind fun p=>(more k p.2).map fun q=>(p.1::q.1,q.2)
noncomputable def mr:Nat→List UInt8→Option (List (List UInt8))
 |_,[]=>some []
 |0,_::_=>none
 |k+1,x::l=>(one (x::l)).bind fun p=>(mr k p.2).map fun q=>p.1::q
def zHK (k:Nat)(x:UInt8)(l:List UInt8):more (k+1) (x::l)=if x=41 then some ([],l)else(one (x::l)).bind fun p=>(more k p.2).map fun q=>(p.1::q.1,q.2):=rfl
def zWs (k:Nat)(x:UInt8)(l:List UInt8):mr (k+1) (x::l)=(one (x::l)).bind fun p=>(mr k p.2).map fun q=>p.1::q:=rfl
def one_app {l b:List UInt8}(h:(41:UInt8) ∉ l)(hl:l≠[]):one (l++41::b)=(one l).map fun p=>(p.1,p.2++41::b):=by
 cases ho:one l with
 | some p=>
   obtain⟨t,r⟩:=p;obtain⟨h1,h2⟩:=zCV ho;rw[h1,zAa,zNm h2];rfl
 | none=>
   rw[Option.map_none,zNo];intro t r e ht;have h41:=ht.no41;rw[zNo]at ho
   have hle:t.length≤l.length:=by
    refine Nat.le_of_not_lt fun hlt=>h41 ?_
    have e2:(l++41::b)[l.length]? = (t++r)[l.length]?:=by rw[e]
    rw[List.getElem?_append_right (zLr _),Nat.sub_self,List.getElem?_append_left hlt]at e2;exact zMg e2.symm
   have e3:l=t++l.drop t.length:=by
    have e4:=congrArg (List.take t.length) e;rw[List.take_append_of_le_length hle,List.take_append_of_le_length (zLr _),List.take_length]at e4;rw[←e4,zLt,Nat.min_eq_left hle,List.take_append_drop]
   exact ho t _ e3 ht
def zTd:∀(k:Nat) (l b:List UInt8),(41:UInt8) ∉ l→more k (l++41::b)=(mr k l).map fun q=>(q,b)
 |0,[],b,_=>by simp[more,mr]
 |_+1,[],b,_=>by simp[more,mr]
 | 0,x::l,b,h=>by
   have:x≠41:=fun e=>h (by simp[e])
   simp[more,mr,this]
 | k+1,x::l,b,h=>by
   have hx:x≠41:=fun e=>h (by simp[e])
   have:=one_app (b:=b) h (by simp);rw[zCa]at this ⊢;rw[zHK,zWs,if_neg hx,this];cases ho:one (x::l)with
   |none=>rfl
   | some p=>
     obtain⟨t,r⟩:=p;obtain⟨h1,h2⟩:=zCV ho;have hr:(41:UInt8) ∉ r:=fun hm=>h (by rw[h1];simp[hm])
     show(more k (r++41::b)).map _=((mr k r).map _).map _;rw[zTd k r b hr];cases mr k r<;>rfl
def zPz:∀(k:Nat) (l:List UInt8),(41:UInt8) ∉ l→more k l=none
 |0,[],_=>by simp[more]
 |_+1,[],_=>by simp[more]
 | 0,x::l,h=>by
   have:x≠41:=fun e=>h (by simp[e])
   simp[more,this]
 | k+1,x::l,h=>by
   have hx:x≠41:=fun e=>h (by simp[e])
   rw[zHK,if_neg hx];cases ho:one (x::l)with
   |none=>rfl
   | some p=>
     obtain⟨t,r⟩:=p;obtain⟨h1,h2⟩:=zCV ho;have hr:(41:UInt8) ∉ r:=fun hm=>h (by rw[h1];simp[hm])
     simp only[zOb,zPz k r hr,Option.map_none]
noncomputable def dsc (s:List UInt8):List (List UInt8)×List UInt8×Bool :=
 match s with
 |[]=>([],[],false)
 | x::l=>if x=40 then
   match more 4 l with
   |none=>([],[],false)
   |some (ts,back)=>if back=[86]∨Tok back then(ts,back,true)else([],[],false)
   else([],[],false)
def Dsc (s:List UInt8):Prop:=(dsc s).2.2=true
noncomputable instance (s:List UInt8):Decidable (Dsc s):=Classical.propDecidable _
def zGY:¬Dsc []:=by simp[Dsc,dsc]
abbrev Ent:=Int×List UInt8×Int×Int
def zAY (p:List Ent)(i:Int):Ent:=if 1≤i∧i≤p.length then p[(i-1).toNat]?.getD (0,[],0,0)else(0,[],0,0)
def zBJ (p:List Ent)(i:Int)(Q:List UInt8→Prop):Prop:=(zAY p i).1=1∧Q (zAY p i).2.1
noncomputable instance (p:List Ent)(i:Int)(Q:List UInt8→Prop):Decidable (zBJ p i Q):=Classical.propDecidable _
def zBq (p:List Ent)(i:Int):Prop:=(zAY p i).1=2∧zBJ p (zAY p i).2.2.1 Nm
noncomputable instance (p:List Ent)(i:Int):Decidable (zBq p i):=Classical.propDecidable _
noncomputable def clsN (p:List Ent)(i:Int):List UInt8:=if zBq p i then(zAY p (zAY p i).2.2.1).2.1 else []
def txt (p:List Ent)(i:Int):List UInt8:=if(zAY p i).1=1 then(zAY p i).2.1 else []
def zDp {p:List Ent}{i:Int}:clsN p i≠[]↔zBq p i:=by
 unfold clsN;constructor
 ·intro h;by_cases hc:zBq p i
  ·exact hc
  ·rw[if_neg hc]at h;exact absurd rfl h
 ·intro h;rw[if_pos h];exact h.2.2.ne
def zIC {p:List Ent}{i:Int}{Q:List UInt8→Prop}(h0:¬ Q []):Q (txt p i)↔zBJ p i Q:=by
 unfold txt zBJ;by_cases h:(zAY p i).1=1
 ·rw[if_pos h];simp[h]
 ·rw[if_neg h];simp[h,h0]
def zOf (s:List UInt8):Prop:=Tok s∨Dsc s
def zNs:¬zOf []:=by
 rintro(h|h)
 ·exact zDd h
 ·exact zGY h
def zDs (p:List Ent)(x:Ent):Prop :=
 if x.1=1 then x.2.2.1=0∧x.2.2.2=0∧(Nm x.2.1∨zOf x.2.1)
 else if x.1=2 then x.2.1=[]∧x.2.2.2=0∧zBJ p x.2.2.1 Nm
 else if x.1=3 then x.2.1=[]∧zBJ p x.2.2.1 Nm∧zBJ p x.2.2.2 zOf
 else if x.1=4 then x.2.1=[]∧zBq p x.2.2.1∧(zAY p x.2.2.2).1=3∧zBJ p (zAY p x.2.2.2).2.2.2 Tok
 else if x.1=5∨x.1=6 then x.2.1=[]∧zBq p x.2.2.1∧(zAY p x.2.2.2).1=3∧zBJ p (zAY p x.2.2.2).2.2.2 Dsc
 else False
noncomputable instance (p:List Ent)(x:Ent):Decidable (zDs p x):=Classical.propDecidable _
def zXe {p:List Ent}{i:Nat}(h:i<p.length):zAY p ((i:Int)+1)=p[i]:=by
 unfold zAY;rw[if_pos ⟨by omega,by omega⟩,show((i:Int)+1-1).toNat=i by omega,zGe h];rfl
def zXd {p:List Ent}{i:Int}(h:(zAY p i).1≠0):∃k,∃_:k<p.length,zAY p i=p[k]:=by
 unfold zAY at h ⊢;by_cases hi:1≤i∧i≤p.length
 ·rw[if_pos hi]at h ⊢;exact⟨(i-1).toNat,by omega,by rw[zGe (by omega)];rfl⟩
 ·rw[if_neg hi]at h;exact absurd rfl h
def zKe (p:List Ent):Prop:=∀i (h:i<p.length),zDs p p[i]
noncomputable def zCw (p:List Ent):Nat→Nat→Int
 |0,_=>0
 |m+1,i=>if h:i<p.length then if zDs p p[i]then zCw p m (i+1)else(i:Int)+1 else 0
def zTT {p:List Ent}:∀(m i:Nat),i+m=p.length→(zCw p m i=0↔∀j,i≤j→∀h:j<p.length,zDs p p[j])
 | 0,i,hi=>by
   constructor
   ·intro _ j h1 h2;omega
   ·intro _;rfl
 | m+1,i,hi=>by
   have h:i<p.length:=by omega
   unfold zCw;rw[dif_pos h];by_cases he:zDs p p[i]
   ·rw[if_pos he,zTT m (i+1) (by omega)];constructor
    ·intro hh j h1 h2;by_cases hj:j=i
     ·subst hj;exact he
     ·exact hh j (by omega) h2
    ·intro hh j h1 h2;exact hh j (by omega) h2
   ·rw[if_neg he];constructor
    ·intro hh;omega
    ·intro hh;exact absurd (hh i (zLr _) h) he
def zWc {p:List Ent}:zCw p p.length 0=0↔zKe p:=by
 rw[zTT p.length 0 (by omega)];exact⟨fun h j hj=>h j (by omega) hj,fun h j _ hj=>h j hj⟩
def zKe.cls {p:List Ent}(h:zKe p){i:Int}:zBq p i↔(zAY p i).1=2:=by
 constructor
 ·exact fun h=>h.1
 ·intro h2;obtain⟨k,hk,e⟩:=zXd (p:=p) (i:=i) (by omega);have:=h k hk;rw[←e]at this;unfold zDs at this;rw[if_neg (by omega),if_pos h2]at this;exact⟨h2,this.2.2⟩
def zAu (p:List Ent)(i:Int):List UInt8:=if(zAY p i).1=2 then(zAY p (zAY p i).2.2.1).2.1 else(zAY p i).2.1
def zDg {p:List Ent}{i:Int}(h:zBq p i):zAu p i=clsN p i:=by
 unfold zAu clsN;rw[if_pos h.1,if_pos h]
def zAy {p:List Ent}{i:Int}(h:(zAY p i).1=1):zAu p i=txt p i:=by
 unfold zAu txt;rw[if_neg (by omega),if_pos h]
abbrev KndP:=Int×Int
abbrev TrpP:=Int×Int×Int×Int
abbrev FrmP:=Int×List KndP×List KndP
abbrev FldP:=Int×Int×Int
abbrev MthP:=Int×Int×Int×Int×Int×List UInt8×List TrpP×List FrmP
abbrev ClsP:=List Ent×Int×Int×Int×List Int×List FldP×List MthP
def has (f k:Int):Prop:=f / k % 2=1
instance (f k:Int):Decidable (has f k):=inferInstanceAs (Decidable (_=_))
def zCH (c:ClsP):Prop :=
 zBq c.1 c.2.2.1∧zBq c.1 c.2.2.2.1∧clsN c.1 c.2.2.2.1≠clsN c.1 c.2.2.1∧(0≤c.2.1∧c.2.1≤7) ∧
 (∀i,i<c.2.2.2.2.1.length→zBq c.1 (c.2.2.2.2.1.getD i 0)∧∀k,k<i→clsN c.1 (c.2.2.2.2.1.getD k 0)≠clsN c.1 (c.2.2.2.2.1.getD i 0)) ∧
 ¬(has c.2.1 2∧has c.2.1 4)∧(has c.2.1 1→has c.2.1 4∧clsN c.1 c.2.2.2.1=[79,98,106])
noncomputable instance (c:ClsP):Decidable (zCH c):=Classical.propDecidable _
def FldOk (c:ClsP)(i:Nat):Prop :=
 let f:=c.2.2.2.2.2.1.getD i (0,0,0)
 zBJ c.1 f.2.1 Nm∧zBJ c.1 f.2.2 Tok∧(0≤f.1∧f.1≤3)∧(has c.2.1 1→f.1=1)∧∀k,k<i→txt c.1 (c.2.2.2.2.2.1.getD k (0,0,0)).2.1≠txt c.1 f.2.1
def zEK (c:ClsP):Prop:=∀i,i<c.2.2.2.2.2.1.length→FldOk c i
noncomputable instance (c:ClsP):Decidable (zEK c):=Classical.propDecidable _
def mth0:MthP:=(0,0,0,0,0,[],[],[])
def zER (c:ClsP)(m:MthP):Prop :=
 (0≤m.1∧m.1≤15)∧(txt c.1 m.2.1=[98,101,103,105,110]→m.1=1∧txt c.1 m.2.2.1=[40,41,86]) ∧
 (has m.1 8→m.1=8∧has c.2.1 4)∧(¬has m.1 8→has c.2.1 1→m.1=1)
noncomputable instance (c:ClsP)(m:MthP):Decidable (zER c m):=Classical.propDecidable _
def MthOk (c:ClsP)(i:Nat):Prop :=
 let m:=c.2.2.2.2.2.2.getD i mth0
 zBJ c.1 m.2.1 Nm∧zBJ c.1 m.2.2.1 Dsc∧zER c m ∧
 ∀k,k<i→¬(txt c.1 (c.2.2.2.2.2.2.getD k mth0).2.1=txt c.1 m.2.1∧txt c.1 (c.2.2.2.2.2.2.getD k mth0).2.2.1=txt c.1 m.2.2.1)
def zFO (c:ClsP):Prop:=∀i,i<c.2.2.2.2.2.2.length→MthOk c i
noncomputable instance (c:ClsP):Decidable (zFO c):=Classical.propDecidable _
def argN (op:Int):Int:=if op=1 then 2 else if 3≤op∧op≤6 then 1 else if 14≤op∧op≤29 then 2 else if 0≤op∧op≤34 then 0 else -1
def numB (op:Int):List UInt8→Int
 |[]=>0
 |[a]=>a.toNat
 |a::b::_=>if op=1∧32768≤(a.toNat:Int)*256+b.toNat then(a.toNat:Int)*256+b.toNat-65536 else(a.toNat:Int)*256+b.toNat
abbrev InsP:=Int×Int×Int
def opsN:Nat→Int→List UInt8→Option (List InsP)
 |_,_,[]=>some []
 |0,_,_::_=>none
 | k+1,a,x::l=>if argN x.toNat<0∨(l.length:Int)<argN x.toNat then none
   else(opsN k (a+1+argN x.toNat) (l.drop (argN x.toNat).toNat)).map fun r=>(a,(x.toNat:Int),numB x.toNat (l.take (argN x.toNat).toNat))::r
def opsV (s:List UInt8):List InsP×Bool:=match opsN s.length 0 s with
 |some (x::r)=>(x::r,true)
 |_=>([],false)
def opI (l:List InsP)(a:Int):Int:=match l.findIdx? (fun x=>decide (x.1=a))with
 |some j=>j
 |none=>-1
def want (op:Int):Int:=if op=19∨op=28∨op=29 then 2 else if 20≤op∧op≤23 then 4 else if 24≤op∧op≤26 then 5 else if op=27 then 6 else 0
def zHh (p:List Ent)(locals:Int)(l:List InsP)(x:InsP):Prop :=
 (3≤x.2.1∧x.2.1≤6→x.2.2<locals)∧(14≤x.2.1∧x.2.1≤18→0≤opI l x.2.2)∧(want x.2.1≠0→(zAY p x.2.2).1=want x.2.1)
noncomputable instance (p:List Ent)(locals:Int)(l:List InsP)(x:InsP):Decidable (zHh p locals l x):=Classical.propDecidable _
def zDJ (p:List Ent)(n:Int)(l:List InsP)(t:TrpP):Prop :=
 t.1<t.2.1∧0≤opI l t.1∧(t.2.1=n∨0≤opI l t.2.1)∧0≤opI l t.2.2.1∧(t.2.2.2=0∨zBq p t.2.2.2)
noncomputable instance (p:List Ent)(n:Int)(l:List InsP)(t:TrpP):Decidable (zDJ p n l t):=Classical.propDecidable _
def zKf (p:List Ent)(k:KndP):Prop:=(0≤k.1∧k.1≤3)∧(k.1=3→zBq p k.2)∧(k.1≠3→k.2=0)
noncomputable instance (p:List Ent)(k:KndP):Decidable (zKf p k):=Classical.propDecidable _
def zBW (p:List Ent)(l:List KndP):Prop:=∀k∈l,zKf p k
noncomputable instance (p:List Ent)(l:List KndP):Decidable (zBW p l):=Classical.propDecidable _
def zUy (p:List Ent)(m:MthP)(l:List InsP)(i:Nat):Prop :=
 let f:=m.2.2.2.2.2.2.2.getD i (0,[],[])
 0≤opI l f.1∧(0<i→(m.2.2.2.2.2.2.2.getD (i-1) (0,[],[])).1<f.1)∧(f.2.1.length:Int)=m.2.2.2.2.1∧(f.2.2.length:Int)≤m.2.2.2.1∧zBW p f.2.1∧zBW p f.2.2
def zKg (p:List Ent)(m:MthP)(l:List InsP):Prop:=∀i,i<m.2.2.2.2.2.2.2.length→zUy p m l i
noncomputable instance (p:List Ent)(m:MthP)(l:List InsP):Decidable (zKg p m l):=Classical.propDecidable _
noncomputable def takes (p:List Ent)(m:MthP):Int:=if has m.1 1 then((dsc (txt p m.2.2.1)).1.length:Int)else(dsc (txt p m.2.2.1)).1.length+1
def zBb (p:List Ent)(m:MthP):Prop :=
 (opsV m.2.2.2.2.2.1).2=true∧m.2.2.2.1≤8∧(takes p m≤m.2.2.2.2.1∧m.2.2.2.2.1≤8) ∧
 (∀x∈(opsV m.2.2.2.2.2.1).1,zHh p m.2.2.2.2.1 (opsV m.2.2.2.2.2.1).1 x)∧(∀t∈m.2.2.2.2.2.2.1,zDJ p m.2.2.2.2.2.1.length (opsV m.2.2.2.2.2.1).1 t)∧zKg p m (opsV m.2.2.2.2.2.1).1
noncomputable instance (p:List Ent)(m:MthP):Decidable (zBb p m):=Classical.propDecidable _
def zHi (c:ClsP):Prop:=∀m∈c.2.2.2.2.2.2,¬has m.1 8→zBb c.1 m
noncomputable instance (c:ClsP):Decidable (zHi c):=Classical.propDecidable _
noncomputable def chkV (c:ClsP):Int:=if zCw c.1 c.1.length 0≠0 then 2 else if ¬zCH c then 3 else if ¬zEK c then 4 else if ¬zFO c then 5 else if ¬zHi c then 6 else 0
end
end Go.Stow
section
namespace Go.TM
open Go.AM
section
variable {α X Y R:Type}
def zHf {f:X→Option (X⊕(Y⊕R))}(mk:Nat→X)(fin:Y)(no:R)(n:Nat)(p:Nat→Prop){x0:X}(hx:x0=mk 0){k:Y→Option R}{r:Option R}
  (hend:f (mk n)=some (.inr (.inl fin)))
  (hy:∀i,i<n→p i→f (mk i)=some (.inl (mk (i+1))))
  (hn:∀i,i<n→¬p i→f (mk i)=some (.inr (.inr no)))
  (hk:(∀i,i<n→p i)→k fin=r) (hno:¬(∀i,i<n→p i)→some no=r):bindE (zAE f x0) k=r:=by
 have key:∀(m i:Nat),i+m=n→((∀j,i≤j→j<n→p j)→zAE f (mk i)=some (.inl fin))∧(¬(∀j,i≤j→j<n→p j)→zAE f (mk i)=some (.inr no)):=by
  intro m
  induction m with
  | zero=>
    intro i hi;have:i=n:=by omega
    subst this;rw[zAd,hend];exact⟨fun _=>rfl,fun h=>absurd (fun j h1 h2=>absurd h2 (by omega)) h⟩
  | succ m ih=>
    intro i hi;obtain⟨i1,i2⟩:=ih (i+1) (by omega);rw[zAd];by_cases hp:p i
    ·rw[hy i (by omega) hp];refine⟨fun h=>i1 fun j h1 h2=>h j (by omega) h2,fun h=>i2 fun h'=>h fun j h1 h2=>?_⟩;by_cases hj:j=i
     ·rw[hj];exact hp
     ·exact h' j (by omega) h2
    ·rw[hn i (by omega) hp];exact⟨fun h=>absurd (h i (zLr _) (by omega)) hp,fun _=>rfl⟩
 obtain⟨k1,k2⟩:=key n 0 (by omega);rw[hx];by_cases h:∀i,i<n→p i
 ·rw[k1 fun j _ h2=>h j h2,zAC,hk h]
 ·rw[k2 fun h'=>h fun i hi=>h' i (by omega) hi,zAH,hno h]
def zKO {f:X→Option (X⊕(Y⊕R))}(mk:Nat→X)(fin:Y)(l:List α)(p:α→Bool)(g:Nat→R){x0:X}(hx:x0=mk 0){k:Y→Option R}
  (hend:f (mk l.length)=some (.inr (.inl fin)))
  (hstep:∀i (h:i<l.length),f (mk i)=if p l[i]=true then some (.inr (.inr (g i)))else some (.inl (mk (i+1)))) :
  bindE (zAE f x0) k=match l.findIdx? p with|some j=>some (g j)|none=>k fin:=by
 have key:∀(m i:Nat),i+m=l.length→zAE f (mk i)=some (match(l.drop i).findIdx? p with|some j=>.inr (g (i+j))|none=>.inl fin):=by
  intro m
  induction m with
  | zero=>
    intro i hi;have:i=l.length:=by omega
    subst this;rw[zAd,hend,List.drop_eq_nil_of_le (zLr _)];rfl
  | succ m ih=>
    intro i hi;have h:i<l.length:=by omega
    rw[zAd,hstep i h,zBf h,List.findIdx?_cons];by_cases hp:p l[i]=true
    ·rw[if_pos hp,if_pos hp];rfl
    ·rw[if_neg hp,if_neg hp];simp only
     rw[ih (i+1) (by omega)];cases (l.drop (i+1)).findIdx? p with
     |none=>rfl
     |some j=>simp only[Option.map_some,zSe];rw[show i+1+j=i+(j+1)by omega]
 rw[hx,key l.length 0 (by omega),List.drop_zero];cases l.findIdx? p with
 |none=>rfl
 |some j=>simp only[zAH,Nat.zero_add]
end
end Go.TM
end
section
namespace Go.Stow
instance (b:UInt8):Decidable (let1 b):=inferInstanceAs (Decidable (_∨_))
instance (b:UInt8):Decidable (dig1 b):=inferInstanceAs (Decidable (_∧_))
def zTz {c:UInt8}:∀l:List UInt8,cut c l=match l.findIdx? (fun x=>decide (x=c))with|some j=>some (l.take j,l.drop (j+1))|none=>none
 |[]=>rfl
 | x::l=>by
   rw[List.findIdx?_cons];unfold cut;by_cases hx:x=c
   ·simp[hx]
   ·rw[if_neg hx,if_neg (by simpa using hx),zTz l];cases l.findIdx? (fun x=>decide (x=c))<;>rfl
def zIs {c:UInt8}:∀{a b:List UInt8},c ∉ a→Lib.indexByte (a++c::b) c=a.length
 |[],b,_=>by simp[Lib.indexByte]
 | x::a,b,h=>by
   simp only[List.mem_cons,not_or]at h;have:=zIs (b:=b) h.2;have hx:(x==c)=false:=by simpa using fun e:x=c=>h.1 e.symm
   have h1:(((a.length:Int)) == -1)=false:=by simp<;>omega
   simp only[zCa,Lib.indexByte,hx,zFt,if_false,this,zLc,h1]
   omega
def zOE {c:UInt8}:∀{l:List UInt8},c ∉ l→Lib.indexByte l c = -1
 |[],_=>rfl
 | x::l,h=>by
   simp only[List.mem_cons,not_or]at h;have hx:(x==c)=false:=by simpa using fun e:x=c=>h.1 e.symm
   simp only[Lib.indexByte,hx,zFt,if_false,zOE h.2,beq_self_eq_true,if_true]
end Go.Stow
namespace Go.TM
open Go.AM
section
variable {X Y R:Type}
def zDu {f:X→Option (X⊕Y)}{x x':X}(h:f x=some (.inl x')):zAE f x=zAE f x':=by rw[zAd,h]
def zBE {f:X→Option (X⊕Y)}{x:X}{y:Y}(h:f x=some (.inr y)):zAE f x=some y:=by rw[zAd,h]
end
end Go.TM
namespace Go.Proofs.YtdpapeledldifaaGreat
open Go Go.AM Go.TM Go.Stow
def q107 (n a b:Int):F107 (n,a,b)=some (decide (a≤n∧n≤b)):=by
 simp only[F107,zAG]
 by_cases h:a≤n<;>simp[h]
def q89 (n a b:Int):F89 (n,a,b)=some (decide (a≤n∧n≤b)):=q107 n a b
def q212 (b:UInt8):F212 (b.toNat:Int)=some (decide (let1 b)):=by
 simp only[F212,zAG]
 repeat' split
 all_goals
  rw[zSe,Bool.eq_iff_iff,decide_eq_true_iff (p:=let1 b)];simp only[let1,zDe,true_iff,zFt,false_iff]
  omega
def n127 (s:List UInt8)(hl:s.length≤1048576):F127 s=some (decide (Nm s)):=by
 simp only[F127]
 refine zHf (fun i=>(s,(i:Int))) s false s.length (fun i=>∀h:i<s.length,let1 s[i]∨(i≠0∧dig1 s[i])) rfl ?_ ?_ ?_ ?_ ?_
 ·simp only[zIl,zDf,zAI]
 ·intro i h hp;have hp:=hp h;have hi:(i:Int)<s.length:=by omega
  have h0:(0:Int)≤i:=by omega
  simp (discharger:=omega) only[hi,h0,zDt,zAJ,zAD,zTn,zAK,q212,zAB,zAU,zAG]
  by_cases hq:let1 s[i]
  ·simp (discharger:=omega) only[hq,if_true,zAC,wI];rfl
  ·have hd:=hp.resolve_left hq;have hi0:¬(i:Int)=0:=by omega
   have hd1:¬(s[i].toNat:Int)<48:=by have:=hd.2.1;omega
   have hd2:¬(57:Int)<s[i].toNat:=by have:=hd.2.2;omega
   simp (discharger:=omega) only[hq,if_false,hi0,hd1,hd2,zAC,wI];rfl
 ·intro i h hp;have hp:¬(let1 s[i]∨(i≠0∧dig1 s[i])):=fun e=>hp fun _=>e
  have hi:(i:Int)<s.length:=by omega
  have h0:(0:Int)≤i:=by omega
  simp (discharger:=omega) only[hi,h0,zDt,zAJ,zAD,zTn,zAK,q212,zAB,zAU,zAG]
  have hq:¬let1 s[i]:=fun e=>hp (.inl e)
  simp only[hq,if_false]
  by_cases hi0:(i:Int)=0
  ·simp only[hi0,if_true,zAH]
  ·by_cases hd1:(s[i].toNat:Int)<48
   ·simp only[hi0,hd1,if_true,if_false,zAH]
   ·by_cases hd2:(57:Int)<s[i].toNat
    ·simp only[hi0,hd1,hd2,if_true,if_false,zAH]
    ·exact absurd (.inr ⟨by omega,by omega,by omega⟩) hp
 ·intro h;rw[q107,zAB];congr 1;rw[decide_eq_decide];exact⟨fun⟨h1,h2⟩=>⟨⟨by omega,by omega⟩,fun i hi=>h i hi hi⟩,fun hn=>⟨by have:=hn.1;omega,by have:=hn.1;omega⟩⟩
 ·intro h;rw[eq_comm];simp only[zSe,zDn]
  exact fun hn=>h fun i _ hi=>hn.2 i hi
def n48 (s:List UInt8)(hl:s.length≤1048576):F48 s=some (decide (Nm s)):=by
 simp only[F48,q89,zAB,zAU,zAG]
 by_cases hr:(1:Int)≤s.length∧(s.length:Int)≤8
 ·rw[if_pos hr];have h0:0<s.length:=by omega
  simp (discharger:=omega) only[zAK]
  by_cases hd:(48:Int)≤s[0].toNat∧(s[0].toNat:Int)≤57
  ·simp only[hd.1,hd.2,if_true,zAH,zSe,eq_comm (a:=false),zDn]
   intro hn;have:=hn.2 0 h0;simp only[let1,dig1]at this;omega
  ·rw[show(if(48:Int)≤s[0].toNat then if(s[0].toNat:Int)≤57 then some (Sum.inr false)else some (Sum.inl s)else some (Sum.inl s):Option (List UInt8⊕Bool))=some (Sum.inl s)by
    split
    ·split
     ·rename_i a b;exact absurd ⟨a,b⟩ hd
     ·rfl
    ·rfl]
   rw[zAC];refine zHf (fun i=>(s,(s.length:Int),(i:Int))) () false s.length (fun i=>∀h:i<s.length,let1 s[i]∨dig1 s[i]) rfl ?_ ?_ ?_ ?_ ?_
   ·simp only[zIl,if_false]
   ·intro i h hp;have hp:=hp h;have hi:(i:Int)<s.length:=by omega
    have hi0:(0:Int)≤i:=by omega
    have hw:IntKind.wrap .i64 ((i:Int)+1)=((i+1:Nat):Int):=by rw[wI (by omega) (by omega)];omega
    simp (discharger:=omega) only[hi,hi0,zDt,if_true,zAD,zTn,zAK,zAs,zAC,zAH,hw]
    generalize s[i]=b at hp;simp only[let1,dig1]at hp
    repeat' split
    all_goals first|rfl|(exfalso;omega)
   ·intro i h hp;have hp:¬(let1 s[i]∨dig1 s[i]):=fun e=>hp fun _=>e
    have hi:(i:Int)<s.length:=by omega
    have hi0:(0:Int)≤i:=by omega
    simp (discharger:=omega) only[hi,hi0,zDt,if_true,zAD,zTn,zAK,zAs,zAC,zAH]
    generalize s[i]=b at hp;simp only[let1,dig1]at hp
    repeat' split
    all_goals first|rfl|(exfalso;omega)
   ·intro h;rw[eq_comm];simp only[zSe,zDe]
    refine⟨⟨by omega,by omega⟩,fun i hi=>?_⟩;rcases h i hi hi with hq|hq
    ·exact .inl hq
    ·by_cases h00:i=0
     ·subst h00;exact absurd ⟨by have:=hq.1;omega,by have:=hq.2;omega⟩ hd
     ·exact .inr ⟨h00,hq⟩
   ·intro h;rw[eq_comm];simp only[zSe,zDn]
    exact fun hn=>h fun i _ hi=>(hn.2 i hi).imp id fun hq=>hq.2
 ·rw[if_neg hr,zAH,eq_comm];simp only[zSe,zDn]
  exact fun hn=>hr ⟨by have:=hn.1;omega,by have:=hn.1;omega⟩
end Go.Proofs.YtdpapeledldifaaGreat
end
