/- Part 32 of the proof that the law FnCheck holds of every input; no condition. -/
import Derived.Test.YtdpapeledldifaaGreatX30
set_option autoImplicit true
set_option relaxedAutoImplicit true
set_option linter.all false
section
namespace Go.Proofs.YtdpapeledldifaaGreat
open Go Go.AM Go.TM
set_option maxRecDepth 10000
def Mb (N:Nat) (m:Mth):Prop:=m.2.2.2.2.2.1.length≤N∧m.2.2.2.2.2.2.1.length≤N∧m.2.2.2.2.2.2.2.length≤N∧∀ f∈m.2.2.2.2.2.2.2,f.2.1.length≤16∧f.2.2.length≤16
def Ms (N:Nat) (l:List Mth):Prop:=l.length≤N∧∀ m∈l,Mb N m
theorem Mb.mono {K L:Nat} {m:Mth} (h:Mb K m) (hc:K≤L):Mb L m:=⟨Nat.le_trans h.1 hc,Nat.le_trans h.2.1 hc,Nat.le_trans h.2.2.1 hc,h.2.2.2⟩
theorem Ms.mono {K L:Nat} {l:List Mth} (h:Ms K l) (hc:K≤L):Ms L l:=⟨Nat.le_trans h.1 hc,fun m hm=>(h.2 m hm).mono hc⟩
theorem Ms.set {K:Nat} {l:List Mth} (h:Ms K l) (i:Nat) {m:Mth} (hm:Mb K m):Ms K (l.set i m):=by
 refine ⟨by rw [List.length_set];exact h.1,fun x hx=>?_⟩
 rcases List.mem_or_eq_of_mem_set hx with hx | rfl
 ·exact h.2 x hx
 ·exact hm
theorem Ms.app {K:Nat} {l:List Mth} (h:Ms K l) {m:Mth} (hm:Mb K m):Ms (K+1) (l++[m]):=by
 refine ⟨by have:=h.1;simp only [List.length_append,List.length_cons,List.length_nil];omega,fun y hy=>?_⟩
 simp only [List.mem_append,List.mem_singleton] at hy
 rcases hy with hy | rfl
 ·exact (h.2 y hy).mono (by omega)
 ·exact hm.mono (by omega)
theorem q315 {ms:List Mth} (h1:1≤ms.length) (h2:ms.length≤1000000) (p:List Cst) (f n s:Int) (fa:List Int) (fi:List (Int×Int×Int)) (bad:Bool):F315 (p,f,n,s,fa,fi,ms,bad)=some (ms.length - 1,ms,p,f,n,s,fa,fi,bad):=by
 have e:IntKind.wrap .i64 ((ms.length:Int) - 1)=(ms.length:Int) - 1:=wrapI (by omega) (by omega)
 have g:(decide ((0:Int)≤(ms.length:Int) - 1) && decide ((ms.length:Int) - 1<(ms.length:Int)))=true:=by simp;omega
 have t:((ms.length:Int) - 1).toNat=ms.length - 1:=by omega
 simp only [F315,e,g,t,zAG]
theorem zMX {ms:List Mth} (h1:1≤ms.length) (h2:ms.length≤1000000) (p:List Cst) (f n s:Int) (fa:List Int) (fi:List (Int×Int×Int)) (bad:Bool):F7000315 ((p,f,n,s,fa,fi,bad),ms)=some (ms.length - 1,(p,f,n,s,fa,fi,bad),ms):=by
 have e:IntKind.wrap .i64 ((ms.length:Int) - 1)=(ms.length:Int) - 1:=wrapI (by omega) (by omega)
 have g:(decide ((0:Int)≤(ms.length:Int) - 1) && decide ((ms.length:Int) - 1<(ms.length:Int)))=true:=by simp;omega
 have t:((ms.length:Int) - 1).toNat=ms.length - 1:=by omega
 simp only [F7000315,e,g,t,zAG]
theorem t324 {k:Int} {a b c:List UInt8} {p:List Cst} {f n s:Int} {fa:List Int} {fi:List (Int×Int×Int)} {ms:List Mth} {bad:Bool} {K:Nat} (hp:Pl K p) (hK:K≤900000) :
  Tot (F324 (k,a,b,c,p,f,n,s,fa,fi,ms,bad)) fun y=>∃ i q b,y=(i,q,f,n,s,fa,fi,ms,b)∧Pl (K+6) q:=by
 unfold F324
 refine Tot.bind (t310 hp hK) ?_
 rintro _ ⟨_,q,_,rfl,hq⟩
 refine Tot.bind (t312 hq (by omega)) ?_
 rintro _ ⟨_,q,_,rfl,hq⟩
 refine Tot.bind (t312 hq (by omega)) ?_
 rintro _ ⟨_,q,_,rfl,hq⟩
 refine Tot.bind (t326 (by simp) hq (by omega)) ?_
 rintro _ ⟨_,q,rfl,hq⟩
 refine Tot.bind (t326 (by simp) hq (by omega)) ?_
 rintro _ ⟨_,q,rfl,hq⟩
 exact Tot.ret ⟨_,_,_,rfl,hq⟩
theorem t291 (n:Int):Tot (F291 n) fun _=>True:=by
 unfold F291
 refine Tot.bindE (fun _=>True) ?_ ?_
 ·exact Tot.cnd (fun _=>Tot.ret trivial) fun _=>Tot.cnd (fun _=>Tot.ret trivial) fun _=>Tot.ret trivial
 rintro ⟨_,_⟩ -
 refine Tot.cnd (fun _=>Tot.ret trivial) fun _=>Tot.bindE (fun _=>True) ?_ ?_
 ·exact Tot.cnd (fun _=>Tot.ret trivial) fun _=>Tot.cnd (fun _=>Tot.ret trivial) fun _=>Tot.cnd (fun _=>Tot.ret trivial) fun _=>Tot.ret trivial
 rintro ⟨_,_⟩ -
 refine Tot.cnd (fun _=>Tot.ret trivial) fun _=>Tot.bindE (fun _=>True) ?_ ?_
 ·exact Tot.cnd (fun _=>Tot.ret trivial) fun _=>Tot.cnd (fun _=>Tot.ret trivial) fun _=>Tot.ret trivial
 rintro ⟨_,_⟩ -
 exact Tot.cnd (fun _=>Tot.ret trivial) fun _=>Tot.cnd (fun _=>Tot.ret trivial) fun _=>Tot.ret trivial
theorem t134 (n:Int):Tot (F134 n) fun y=>y.length=1:=by
 unfold F134
 exact Tot.grd (u8ok _) (Tot.ret rfl)
theorem t136 (n:Int):Tot (F136 n) fun y=>y.length=2:=by
 unfold F136
 exact Tot.grd (u8ok _) (Tot.grd (u8ok _) (Tot.ret rfl))
theorem t194 (x:Int×Int×Int):Tot (F194 [x]) fun y=>y.length≤3:=by
 unfold F194
 refine Tot.bindE (fun y=>y.length≤3) (Tot.loop (fun z=>z.1=[x]∧((z.2.2=0∧z.2.1.length=0)∨(z.2.2=1∧z.2.1.length≤3))) (fun z=>1 - z.2.2.toNat) ?_ ⟨rfl,.inl ⟨rfl,rfl⟩⟩) fun y hy=>Tot.ret hy
 rintro ⟨l,out,i⟩ ⟨hl,hi⟩
 simp only at hl hi
 subst hl
 refine Tot.cnd (fun h=>?_) fun h=>Tot.ret (by show out.length≤3;omega)
 simp only [decide_eq_true_eq,List.length_cons,List.length_nil] at h
 have h0:i=0∧out.length=0:=by omega
 obtain ⟨rfl,ho⟩:=h0
 refine Tot.grd (by simp) (Tot.at' (x:=x) rfl (Tot.bind (t134 _) fun y hy=>Tot.grd (by simp;omega) (Tot.bind (t251 _) fun y1 _=>?_)))
 refine Tot.bindE (fun w=>w.1=[x]∧w.2.1.length≤3∧w.2.2=0) ?_ ?_
 ·refine Tot.cnd (fun _=>Tot.bind (t134 _) fun z hz=>Tot.grd (by simp;omega) (Tot.ret ⟨rfl,by simp;omega,rfl⟩)) fun _=>Tot.cnd (fun _=>Tot.bind (t136 _) fun z hz=>Tot.grd (by simp;omega) (Tot.ret ⟨rfl,by simp;omega,rfl⟩)) fun _=>Tot.ret ⟨rfl,by simp;omega,rfl⟩
 ·rintro ⟨l,out,i⟩ ⟨rfl,ho,rfl⟩
  exact Tot.ret ⟨⟨rfl,.inr ⟨rfl,ho⟩⟩,by show 1 - (IntKind.wrap .i64 (0+1)).toNat<1 - (0:Int).toNat;rw [wrapI (by omega) (by omega)];decide⟩
theorem t309 {v:List (List UInt8)} {p:List Cst} {f n s:Int} {fa:List Int} {fi:List (Int×Int×Int)} {ms:List Mth} {bad:Bool} {K:Nat} (hv:1≤v.length) (hv2:v.length≤10) (hvt:∀ x∈v,x.length≤1000000000000) (hp:Pl K p) (hm:Ms K ms) (hK:K≤900000) :
  Tot (F309 (v,p,f,n,s,fa,fi,ms,bad)) fun y=>∃ q ms' b,y=(q,f,n,s,fa,fi,ms',b)∧Pl (K+10) q∧Ms (K+10) ms':=by
 obtain ⟨x,e0⟩:∃ x,v[0]? = some x:=⟨v[0],List.getElem?_eq_getElem hv⟩
 obtain ⟨y,ey,hy⟩:Tot (F302 ()) fun y=>y.length≤100:=Tot.ret (by decide)
 obtain ⟨y1,e1,-⟩:=t301 (list:=y) (s:=x) (by omega)
 have hl:=hm.1
 have hat:∀ i (h:i<v.length),v[i].length≤1000000000000:=fun i h=>hvt _ (List.getElem_mem h)
 simp only [F309,zCK e0,ey,e1,zAB,eq_self,decide_true,Bool.and_true,zAG,zAV,zDN]
 refine Tot.bindE (fun z=>z=(v,(0,y1,0),p,f,n,s,fa,fi,ms,bad)∧1≤ms.length) ?_ ?_
 ·refine Tot.cnd (fun _=>Tot.ret ⟨_,_,_,rfl,hp.mono (by omega),hm.mono (by omega)⟩) fun h=>Tot.cnd (fun _=>Tot.ret ⟨_,_,_,rfl,hp.mono (by omega),hm.mono (by omega)⟩) fun _=>?_
  simp only [decide_eq_false_iff_not] at h
  exact Tot.ret ⟨rfl,by omega⟩
 rintro _ ⟨rfl,h1⟩
 refine Tot.bind (t291 _) ?_
 rintro y2 -
 refine Tot.bindE (fun z=>∃ a b c q bd,z=((a,b,c),q,f,n,s,fa,fi,ms,bd)∧Pl (K+10) q) ?_ ?_
 ·refine Tot.bindE (fun z=>∃ b,z=(v,y2,b,(0,y1,0),p,f,n,s,fa,fi,ms,bad)∧(b=true→v.length=2)) ?_ ?_
  ·exact Tot.cnd (fun _=>Tot.ret ⟨_,rfl,fun h=>by simp only [decide_eq_true_eq] at h;omega⟩) fun _=>Tot.ret ⟨_,rfl,by simp⟩
  rintro _ ⟨b,rfl,hb⟩
  refine Tot.cnd (fun h=>?_) fun _=>?_
  ·have:=hb h
   refine Tot.at (by show _<v.length;omega) fun z _=>Tot.bind (t310 hp hK) ?_
   rintro _ ⟨i,q,b,rfl,hq⟩
   exact Tot.ret ⟨_,_,_,_,_,rfl,hq.mono (by omega)⟩
  refine Tot.bindE (fun z=>∃ b,z=(v,y2,b,(0,y1,0),p,f,n,s,fa,fi,ms,bad)∧(b=true→v.length=4)) ?_ ?_
  ·exact Tot.cnd (fun _=>Tot.ret ⟨_,rfl,fun h=>by simp only [decide_eq_true_eq] at h;omega⟩) fun _=>Tot.ret ⟨_,rfl,by simp⟩
  rintro _ ⟨b,rfl,hb⟩
  refine Tot.cnd (fun h=>?_) fun _=>?_
  ·have:=hb h
   refine Tot.at (by show _<v.length;omega) fun z _=>Tot.at (by show _<v.length;omega) fun z2 _=>Tot.at (by show _<v.length;omega) fun z3 _=>Tot.bind (t324 hp hK) ?_
   rintro _ ⟨i,q,b,rfl,hq⟩
   exact Tot.ret ⟨_,_,_,_,_,rfl,hq.mono (by omega)⟩
  refine Tot.bindE (fun z=>∃ b,z=(v,y2,b,(0,y1,0),p,f,n,s,fa,fi,ms,bad)∧(b=true→v.length=2)) ?_ ?_
  ·exact Tot.cnd (fun _=>Tot.ret ⟨_,rfl,fun h=>by simp only [decide_eq_true_eq] at h;omega⟩) fun _=>Tot.ret ⟨_,rfl,by simp⟩
  rintro _ ⟨b,rfl,hb⟩
  refine Tot.cnd (fun h=>?_) fun _=>?_
  ·have:=hb h
   refine Tot.at (by show _<v.length;omega) fun z hz=>Tot.bind (t325 (hvt _ (List.mem_of_getElem? hz))) ?_
   rintro ⟨y3,y4⟩ -
   exact Tot.cnd (fun _=>Tot.ret ⟨_,_,_,_,_,rfl,hp.mono (by omega)⟩) fun _=>Tot.ret ⟨_,_,_,_,_,rfl,hp.mono (by omega)⟩
  refine Tot.bindE (fun z=>∃ b,z=(v,y2,b,(0,y1,0),p,f,n,s,fa,fi,ms,bad)∧(b=true→v.length=2)) ?_ ?_
  ·refine Tot.cnd (fun _=>Tot.bind (t251 _) fun _ _=>Tot.cnd (fun _=>Tot.ret ⟨_,rfl,fun h=>by simp only [decide_eq_true_eq] at h;omega⟩) fun _=>Tot.ret ⟨_,rfl,by simp⟩) fun _=>Tot.ret ⟨_,rfl,by simp⟩
  rintro _ ⟨b,rfl,hb⟩
  refine Tot.cnd (fun h=>?_) fun _=>?_
  ·have:=hb h
   refine Tot.at (by show _<v.length;omega) fun z hz=>Tot.bind (t311 (hvt _ (List.mem_of_getElem? hz))) ?_
   rintro _ ⟨i,b,rfl⟩
   exact Tot.ret ⟨_,_,_,_,_,rfl,hp.mono (by omega)⟩
  refine Tot.cnd (fun _=>Tot.bind (t251 _) fun _ _=>Tot.cnd (fun _=>Tot.cnd (fun _=>?_) fun _=>?_) fun _=>?_) fun _=>?_
  ·exact Tot.ret ⟨_,_,_,_,_,rfl,hp.mono (by omega)⟩
  ·exact Tot.ret ⟨_,_,_,rfl,hp.mono (by omega),hm.mono (by omega)⟩
  ·exact Tot.ret ⟨_,_,_,rfl,hp.mono (by omega),hm.mono (by omega)⟩
  ·exact Tot.ret ⟨_,_,_,rfl,hp.mono (by omega),hm.mono (by omega)⟩
 rintro _ ⟨a,b,c,q,bd,rfl,hq⟩
 refine Tot.bind (t107 _ _ _) fun y3 _=>Tot.cnd (fun _=>Tot.ret ⟨_,_,_,rfl,hq,hm.mono (by omega)⟩) fun _=>?_
 obtain ⟨m,em⟩:∃ m,ms[ms.length - 1]? = some m:=⟨ms[ms.length - 1],List.getElem?_eq_getElem (by omega)⟩
 have hmb:=hm.2 m (List.mem_of_getElem? em)
 obtain ⟨code,ec,hc⟩:=t194 (a,b,c)
 have g:decide ((((List.length m.2.2.2.2.2.1:Nat):Int)+((List.length code:Nat):Int))≤9223372036854775807)=true:=by
  have:=hmb.1;simp only [decide_eq_true_eq];omega
 have g':decide (List.length m.2.2.2.2.2.1+List.length code≤9223372036854775807)=true:=by
  have:=hmb.1;simp only [decide_eq_true_eq];omega
 simp only [q315 h1 (show ms.length≤1000000 by omega),zMX h1 (show ms.length≤1000000 by omega),zAB,zCK em,ec,eq_self,decide_true,Bool.and_true,beq_self_eq_true,zAG,zAV,g,g',zDN]
 refine Tot.ret ⟨_,_,_,rfl,hq,(hm.mono (by omega)).set _ ?_⟩
 obtain ⟨k1,k2,k3,k4⟩:=hmb
 exact ⟨by simp only [List.length_append];omega,by simp only;omega,by simp only;omega,k4⟩
theorem t108 (f:Int) {k:Int} (hk:(!decide (k=0))=true):Tot (F108 (f,k)) fun _=>True:=by
 unfold F108
 exact Tot.grd hk (Tot.ret trivial)
theorem t313 {w:List (List UInt8)} {p:List Cst} {f n s:Int} {fa:List Int} {fi:List (Int×Int×Int)} {ms:List Mth} {bad:Bool} {K:Nat} (hw:w.length=4∨w.length=6) (hwt:∀ x∈w,x.length≤1000000000000) (hp:Pl K p) (hm:Ms K ms) (hK:K≤900000) :
  Tot (F313 (w,p,f,n,s,fa,fi,ms,bad)) fun y=>∃ q ms' b,y=(q,f,n,s,fa,fi,ms',b)∧Pl (K+10) q∧Ms (K+10) ms':=by
 have hl:=hm.1
 obtain ⟨x1,e1⟩:∃ x,w[1]? = some x:=⟨w[1],List.getElem?_eq_getElem (by omega)⟩
 obtain ⟨x2,e2⟩:∃ x,w[2]? = some x:=⟨w[2],List.getElem?_eq_getElem (by omega)⟩
 obtain ⟨x3,e3⟩:∃ x,w[3]? = some x:=⟨w[3],List.getElem?_eq_getElem (by omega)⟩
 obtain ⟨_,c1,i1,q1,b1,rfl,hq1⟩:=t312 (x:=x1) (f:=f) (n:=n) (s:=s) (fa:=fa) (fi:=fi) (ms:=ms) (bad:=bad) hp (by omega)
 obtain ⟨_,c2,i2,q2,b2,rfl,hq2⟩:=t312 (x:=x2) (f:=f) (n:=n) (s:=s) (fa:=fa) (fi:=fi) (ms:=ms) (bad:=b1) hq1 (by omega)
 obtain ⟨_,c3,i3,b3,rfl⟩:=t311 (x:=x3) (p:=q2) (f:=f) (n:=n) (s:=s) (fa:=fa) (fi:=fi) (ms:=ms) (bad:=b2) (hwt _ (List.mem_of_getElem? e3))
 simp only [F313,zCK e1,zCK e2,zCK e3,c1,c2,c3,zAB,eq_self,decide_true,Bool.and_true,zAG,zAV,zDN]
 refine Tot.bindE (fun z=>∃ d e b,z=(w,(i3,i1,i2,d,e,[],[],[]),q2,f,n,s,fa,fi,ms,b)) ?_ ?_
 ·refine Tot.cnd (fun h=>?_) fun _=>Tot.ret ⟨_,_,_,rfl⟩
  simp only [decide_eq_true_eq] at h
  refine Tot.at (by omega) fun z hz=>Tot.bind (t311 (hwt _ (List.mem_of_getElem? hz))) ?_
  rintro _ ⟨_,b,rfl⟩
  refine Tot.at (by omega) fun z hz=>Tot.bind (t311 (hwt _ (List.mem_of_getElem? hz))) ?_
  rintro _ ⟨_,b,rfl⟩
  exact Tot.ret ⟨_,_,_,rfl⟩
 rintro _ ⟨d,e,b,rfl⟩
 refine Tot.bindE (fun z=>∃ b,z=((i3,i1,i2,d,e,[],[],[]),q2,f,n,s,fa,fi,ms,b)) ?_ ?_
 ·exact Tot.bind (t108 _ (by decide)) fun _ _=>Tot.cnd (fun _=>Tot.ret ⟨_,rfl⟩) fun _=>Tot.ret ⟨_,rfl⟩
 rintro _ ⟨b,rfl⟩
 refine Tot.grd (by simp;omega) (Tot.ret ⟨_,_,_,rfl,hq2.mono (by omega),(hm.app ?_).mono (by omega)⟩)
 exact ⟨by simp,by simp,by simp,by simp⟩
theorem t314 {w:List (List UInt8)} {p:List Cst} {f n s:Int} {fa:List Int} {fi:List (Int×Int×Int)} {ms:List Mth} {bad:Bool} {K:Nat} (hw:w.length=5) (h1:1≤ms.length) (hwt:∀ x∈w,x.length≤1000000000000) (hp:Pl K p) (hm:Ms K ms) (hK:K≤900000) :
  Tot (F314 (w,p,f,n,s,fa,fi,ms,bad)) fun y=>∃ q ms' b,y=(q,f,n,s,fa,fi,ms',b)∧Pl (K+10) q∧Ms (K+10) ms':=by
 have hl:=hm.1
 obtain ⟨x1,e1⟩:∃ x,w[1]? = some x:=⟨w[1],List.getElem?_eq_getElem (by omega)⟩
 obtain ⟨x2,e2⟩:∃ x,w[2]? = some x:=⟨w[2],List.getElem?_eq_getElem (by omega)⟩
 obtain ⟨x3,e3⟩:∃ x,w[3]? = some x:=⟨w[3],List.getElem?_eq_getElem (by omega)⟩
 obtain ⟨x4,e4⟩:∃ x,w[4]? = some x:=⟨w[4],List.getElem?_eq_getElem (by omega)⟩
 obtain ⟨_,c1,i1,b1,rfl⟩:=t311 (x:=x1) (p:=p) (f:=f) (n:=n) (s:=s) (fa:=fa) (fi:=fi) (ms:=ms) (bad:=bad) (hwt _ (List.mem_of_getElem? e1))
 obtain ⟨_,c2,i2,b2,rfl⟩:=t311 (x:=x2) (p:=p) (f:=f) (n:=n) (s:=s) (fa:=fa) (fi:=fi) (ms:=ms) (bad:=b1) (hwt _ (List.mem_of_getElem? e2))
 obtain ⟨_,c3,i3,b3,rfl⟩:=t311 (x:=x3) (p:=p) (f:=f) (n:=n) (s:=s) (fa:=fa) (fi:=fi) (ms:=ms) (bad:=b2) (hwt _ (List.mem_of_getElem? e3))
 simp only [F314,zCK e1,zCK e2,zCK e3,zCK e4,c1,c2,c3,zAB,eq_self,decide_true,Bool.and_true,zAG,zAV,zDN]
 refine Tot.bindE (fun z=>∃ a q b,z=((i1,i2,i3,a),q,f,n,s,fa,fi,ms,b)∧Pl (K+10) q) ?_ ?_
 ·refine Tot.cnd (fun h=>?_) fun _=>Tot.ret ⟨_,_,_,rfl,hp.mono (by omega)⟩
  refine Tot.bind (t310 hp hK) ?_
  rintro _ ⟨i,q,b,rfl,hq⟩
  exact Tot.ret ⟨_,_,_,rfl,hq.mono (by omega)⟩
 rintro _ ⟨a,q,b,rfl,hq⟩
 obtain ⟨m,em⟩:∃ m,ms[ms.length - 1]? = some m:=⟨ms[ms.length - 1],List.getElem?_eq_getElem (by omega)⟩
 have hmb:=hm.2 m (List.mem_of_getElem? em)
 have hlt:decide (ms.length - 1<ms.length)=true:=by simp only [decide_eq_true_eq];omega
 have g:(decide (List.length m.2.2.2.2.2.2.1+1≤9223372036854775807) && decide ((List.length m.2.2.2.2.2.2.1+1)*32≤140737488355328))=true:=by
  have:=hmb.2.1;simp only [Bool.and_eq_true,decide_eq_true_eq];omega
 simp only [q315 h1 (show ms.length≤1000000 by omega),zMX h1 (show ms.length≤1000000 by omega),zAB,zCK em,eq_self,decide_true,Bool.and_true,Bool.true_and,beq_self_eq_true,hlt,zAG,zAV,g,zDN]
 refine Tot.ret ⟨_,_,_,rfl,hq,(hm.mono (by omega)).set _ ?_⟩
 obtain ⟨k1,k2,k3,k4⟩:=hmb
 exact ⟨by simp only;omega,by simp only [List.length_append,List.length_cons,List.length_nil];omega,by simp only;omega,k4⟩
end Go.Proofs.YtdpapeledldifaaGreat
end
section
namespace Go.TM
open Go.AM
section
variable {σ α β:Type}
def Sm (Re:σ→Option (List UInt8)→Prop) (r:Option (α×σ)) (m:Option (α×List UInt8)):Prop :=
 ∃ v s,r=some (v,s)∧Re s (m.map (·.2))∧∀ v' l,m=some (v',l)→v=v'
variable {Re:σ→Option (List UInt8)→Prop}
theorem Sm.bind {r:Option (α×σ)} {m:Option (α×List UInt8)} {k:α×σ→Option (β×σ)} {k':α→List UInt8→Option (β×List UInt8)} (h:Sm Re r m)
  (hk:∀ v s st,Re s st→(∀ l,st=some l→m=some (v,l))→Sm Re (k (v,s)) (st.bind (k' v))):Sm Re (zAA r k) (m.bind fun p=>k' p.1 p.2):=by
 obtain ⟨v,s,rfl,h1,h2⟩:=h
 rw [zAB]
 have:=hk v s (m.map (·.2)) h1 (by
  intro l hl
  cases m with
  | none=>cases hl
  | some p=>obtain ⟨a,b⟩:=p;simp only [Option.map_some,Option.some.injEq] at hl;subst hl;rw [h2 a b rfl])
 cases m with
 | none=>exact this
 | some p =>
   obtain ⟨a,b⟩:=p
   have e:=h2 a b rfl
   subst e
   exact this
theorem Sm.ret {s:σ} {st:Option (List UInt8)} (h:Re s st) (v:α):Sm Re (some (v,s)) (st.bind fun l=>some (v,l)):=by
 refine ⟨v,s,rfl,?_,fun v' l hl=>?_⟩
 ·cases st with
  | none=>exact h
  | some l=>exact h
 ·cases st with
  | none=>cases hl
  | some l=>simp only [Option.bind_some,Option.some.injEq,Prod.mk.injEq] at hl;exact hl.1
def gRep (g:List UInt8→Option (β×List UInt8)):Nat→List UInt8→Option (List β×List UInt8)
 | 0,l=>some ([],l)
 | n+1,l=>(g l).bind fun p=>(gRep g n p.2).bind fun q=>some (p.1 :: q.1,q.2)
theorem zSo {g:List UInt8→Option (β×List UInt8)}:∀ (n:Nat) (l:List UInt8) (vs:List β) (l':List UInt8),gRep g n l=some (vs,l')→vs.length=n
 | 0,l,vs,l',h=>by simp only [gRep,Option.some.injEq,Prod.mk.injEq] at h;rw [← h.1];rfl
 | n+1,l,vs,l',h=>by
   simp only [gRep] at h
   cases hg:g l with
   | none=>rw [hg] at h;cases h
   | some p =>
     rw [hg] at h
     simp only [Option.bind_some] at h
     cases hr:gRep g n p.2 with
     | none=>rw [hr] at h;cases h
     | some q =>
       rw [hr] at h
       simp only [Option.bind_some,Option.some.injEq,Prod.mk.injEq] at h
       rw [← h.1,List.length_cons,zSo n p.2 q.1 q.2 hr]
theorem zSp {g:List UInt8→Option (β×List UInt8)} {P:β→Prop} (hg:∀ l v l',g l=some (v,l')→P v):∀ (n:Nat) (l:List UInt8) (vs:List β) (l':List UInt8),gRep g n l=some (vs,l')→∀ v∈vs,P v
 | 0,l,vs,l',h=>by simp only [gRep,Option.some.injEq,Prod.mk.injEq] at h;rw [← h.1];simp
 | n+1,l,vs,l',h=>by
   simp only [gRep] at h
   cases hgl:g l with
   | none=>rw [hgl] at h;cases h
   | some p =>
     rw [hgl] at h
     simp only [Option.bind_some] at h
     cases hr:gRep g n p.2 with
     | none=>rw [hr] at h;cases h
     | some q =>
       rw [hr] at h
       simp only [Option.bind_some,Option.some.injEq,Prod.mk.injEq] at h
       rw [← h.1]
       intro v hv
       simp only [List.mem_cons] at hv
       rcases hv with rfl | hv
       ·exact hg l _ _ hgl
       ·exact zSp hg n p.2 q.1 q.2 hr v hv
theorem loop_sim {X Y:Type} {f:X→Option (X ⊕ Y)} (mk:List β→Nat→σ→X) (fin:List β→σ→Y) (n:Nat) (g:List UInt8→Option (β×List UInt8))
  (hbad:∀ out i s,i≤n→Re s none→f (mk out i s)=some (.inr (fin out s)))
  (hend:∀ out s l,Re s (some l)→f (mk out n s)=some (.inr (fin out s)))
  (hstep:∀ out i s l,i<n→out.length=i→Re s (some l)→∃ v s',f (mk out i s)=some (.inl (mk (out++[v]) (i+1) s'))∧Re s' ((g l).map (·.2))∧∀ v' l',g l=some (v',l')→v=v') :
  ∀ (out:List β) (i:Nat) (s:σ) (st:Option (List UInt8)),i≤n→(∀ l,st=some l→out.length=i)→Re s st →
   ∃ out' s',zAF f (mk out i s)=some (fin out' s')∧Re s' ((st.bind (gRep g (n - i))).map (·.2))∧∀ vs l',st.bind (gRep g (n - i))=some (vs,l')→out'=out++vs:=by
 intro out i s st hi
 generalize hm:n - i=m
 induction m generalizing out i s st with
 | zero =>
   intro ho h
   have:i=n:=by omega
   subst this
   rw [zAk]
   cases st with
   | none=>rw [hbad out i s hi h];exact ⟨out,s,rfl,h,fun _ _ h=>by cases h⟩
   | some l =>
     rw [hend out s l h]
     exact ⟨out,s,rfl,h,fun vs l' h=>by simp only [Option.bind_some,gRep,Option.some.injEq,Prod.mk.injEq] at h;simp [← h.1]⟩
 | succ m ih =>
   intro ho h
   rw [zAk]
   cases st with
   | none=>rw [hbad out i s hi h];exact ⟨out,s,rfl,h,fun _ _ h=>by cases h⟩
   | some l =>
     obtain ⟨v,s',h1,h2,h3⟩:=hstep out i s l (by omega) (ho l rfl) h
     rw [h1]
     obtain ⟨out',s'',q1,q2,q3⟩:=ih (out++[v]) (i+1) s' ((g l).map (·.2)) (by omega) (by omega) (by intro l' hl;simp [ho l rfl]) h2
     refine ⟨out',s'',q1,?_,fun vs l' hv=>?_⟩
     ·cases hg:g l with
      | none=>rw [hg] at q2;simpa [gRep,hg] using q2
      | some p =>
        rw [hg] at q2
        simp only [Option.map_some,Option.bind_some] at q2
        simp only [Option.bind_some,gRep,hg]
        cases hr:gRep g m p.2 with
        | none=>rw [hr] at q2;exact q2
        | some q=>rw [hr] at q2;exact q2
     ·cases hg:g l with
      | none=>simp [gRep,hg] at hv
      | some p =>
        obtain ⟨a,b⟩:=p
        have e:=h3 a b hg
        subst e
        rw [hg] at q3
        simp only [Option.map_some,Option.bind_some] at q3
        simp only [Option.bind_some,gRep,hg] at hv
        cases hr:gRep g m b with
        | none=>rw [hr] at hv;cases hv
        | some q =>
          rw [hr] at hv
          simp only [Option.bind_some,Option.some.injEq,Prod.mk.injEq] at hv
          rw [q3 q.1 q.2 hr,← hv.1]
          simp
end
def g1:List UInt8→Option (Int×List UInt8)
 | []=>none
 | x :: l=>some ((x.toNat:Int),l)
def g2 (l:List UInt8):Option (Int×List UInt8):=(g1 l).bind fun p=>(g1 p.2).bind fun q=>some (p.1*256+q.1,q.2)
def gT (n:Int) (l:List UInt8):Option (List UInt8×List UInt8):=if n≤l.length then some (l.take n.toNat,l.drop n.toNat) else none
theorem zDJ {l l':List UInt8} {v:Int} (h:g1 l=some (v,l')):0≤v∧v≤255:=by
 cases l with
 | nil=>cases h
 | cons x l =>
   simp only [g1,Option.some.injEq,Prod.mk.injEq] at h
   have:=x.toNat_lt
   omega
theorem zVc {l l':List UInt8} {v:Int} (h:g2 l=some (v,l')):0≤v∧v≤65535:=by
 unfold g2 at h
 cases h1:g1 l with
 | none=>rw [h1] at h;cases h
 | some p =>
   rw [h1] at h
   simp only [Option.bind_some] at h
   cases h2:g1 p.2 with
   | none=>rw [h2] at h;cases h
   | some q =>
     rw [h2] at h
     simp only [Option.bind_some,Option.some.injEq,Prod.mk.injEq] at h
     have:=zDJ (l:=l) (v:=p.1) (l':=p.2) h1
     have:=zDJ (l:=p.2) (v:=q.1) (l':=q.2) h2
     omega
end Go.TM
end
section
namespace Go.Proofs.YtdpapeledldifaaGreat
open Go Go.AM Go.TM
def Re3 (s0:List UInt8) (p:List UInt8×Int×Bool) (st:Option (List UInt8)):Prop :=
 p.1=s0∧0≤p.2.1∧p.2.1≤s0.length∧s0.length≤900∧(st=none→p.2.2=true)∧∀ l,st=some l→p.2.2=false∧l=s0.drop p.2.1.toNat
def Re2 (p:List UInt8×Bool) (st:Option (List UInt8)):Prop :=
 p.1.length≤900∧(st=none→p.2=true)∧∀ l,st=some l→p.2=false∧l=p.1
theorem wI {x:Int} (h1 : -9223372036854775808≤x) (h2:x≤9223372036854775807):IntKind.wrap .i64 x=x:=AM.wrapI h1 h2
theorem Re3.bad {s0:List UInt8} {p:List UInt8×Int×Bool} {st:Option (List UInt8)} (h:Re3 s0 p st):Re3 s0 (p.1,p.2.1,true) none:=⟨h.1,h.2.1,h.2.2.1,h.2.2.2.1,fun _=>rfl,fun _ h=>by cases h⟩
theorem Re2.bad {p:List UInt8×Bool} {st:Option (List UInt8)} (h:Re2 p st):Re2 (p.1,true) none:=⟨h.1,fun _=>rfl,fun _ h=>by cases h⟩
theorem s221 {s0:List UInt8} (s:List UInt8×Int×Bool) (st:Option (List UInt8)) (h:Re3 s0 s st):Sm (Re3 s0) (F221 s) (st.bind g1):=by
 obtain ⟨o0,o1,o2⟩:=s
 obtain ⟨h1,h2,h3,h4,h5,h6⟩:=h
 simp only at h1 h2 h3 h5 h6
 subst h1
 cases st with
 | none =>
   have:=h5 rfl
   subst this
   refine ⟨0,(o0,o1,true),rfl,⟨rfl,h2,h3,h4,fun _=>rfl,fun _ h=>by cases h⟩,fun _ _ h=>by cases h⟩
 | some l =>
   obtain ⟨rfl,rfl⟩:=h6 l rfl
   simp only [F221,zAK,zAC,zAE]
   by_cases hl:(o0.length:Int)≤o1
   ·rw [if_pos hl]
    have:o0.drop o1.toNat=[]:=List.drop_eq_nil_of_le (by omega)
    refine ⟨_,_,rfl,?_,?_⟩
    ·simp only [Option.bind_some,this,g1,Option.map_none]
     exact ⟨rfl,h2,h3,h4,fun _=>rfl,fun _ h=>by cases h⟩
    ·intro v' l' hv
     simp [this,g1] at hv
   ·rw [if_neg hl]
    rw [wI (x:=o1+1) (by omega) (by omega),wI (x:=o1+1 - 1) (by omega) (by omega),show o1+1 - 1=o1 by omega]
    have hn:o1.toNat<o0.length:=by omega
    rw [zAW h2,zAL hn]
    have hr:=o0[o1.toNat].toNat_lt
    rw [wI (by omega) (by omega)]
    refine ⟨_,_,rfl,?_,?_⟩
    ·simp only [Option.bind_some,zBT hn,g1,Option.map_some]
     refine ⟨rfl,by simp only;omega,by simp only;omega,h4,(fun h=>by cases h),fun l h=>⟨rfl,?_⟩⟩
     simp only [Option.some.injEq] at h
     rw [← h]
     simp only
     rw [show (o1+1).toNat=o1.toNat+1 by omega]
    ·intro v' l' hv
     simp only [Option.bind_some,zBT hn,g1,Option.some.injEq,Prod.mk.injEq] at hv
     exact hv.1
theorem s222 {s0:List UInt8} (s:List UInt8×Int×Bool) (st:Option (List UInt8)) (h:Re3 s0 s st):Sm (Re3 s0) (F222 s) (st.bind g2):=by
 have e:st.bind g2=(st.bind g1).bind fun p=>(g1 p.2).bind fun q=>some (p.1*256+q.1,q.2):=by cases st <;> rfl
 rw [e]
 refine Sm.bind (k':=fun a l=>(g1 l).bind fun q=>some (a*256+q.1,q.2)) (s221 s st h) fun v s1 st1 h1 e1=>?_
 have e:(st1.bind fun l=>(g1 l).bind fun q=>some (v*256+q.1,q.2))=(st1.bind g1).bind fun q=>some (v*256+q.1,q.2):=by cases st1 <;> rfl
 rw [e]
 refine Sm.bind (k':=fun a l=>some (v*256+a,l)) (s221 s1 st1 h1) fun v2 s2 st2 h2 e2=>?_
 cases st2 with
 | none=>exact ⟨_,_,rfl,h2,fun _ _ h=>by cases h⟩
 | some l2 =>
   have q2:=e2 l2 rfl
   cases st1 with
   | none=>cases q2
   | some l1 =>
     have q1:=e1 l1 rfl
     cases st with
     | none=>cases q1
     | some l =>
       have r1:=zDJ (l:=l) q1
       have r2:=zDJ (l:=l1) q2
       refine ⟨_,_,rfl,h2,fun v' l' hv=>?_⟩
       simp only [Option.bind_some,Option.some.injEq,Prod.mk.injEq] at hv
       rw [← hv.1]
       rw [wI (x:=v*256) (by omega) (by omega),wI (by omega) (by omega)]
theorem s219 {s0:List UInt8} (n:Int) (s:List UInt8×Int×Bool) (st:Option (List UInt8)) (h:Re3 s0 s st) (hn:∀ l,st=some l→0≤n∧n≤65535):Sm (Re3 s0) (F219 (n,s)) (st.bind (gT n)):=by
 obtain ⟨o0,o1,o2⟩:=s
 obtain ⟨h1,h2,h3,h4,h5,h6⟩:=h
 simp only at h1 h2 h3 h5 h6
 subst h1
 cases st with
 | none =>
   have:=h5 rfl
   subst this
   refine ⟨[],(o0,o1,true),rfl,⟨rfl,h2,h3,h4,fun _=>rfl,fun _ h=>by cases h⟩,fun _ _ h=>by cases h⟩
 | some l =>
   obtain ⟨rfl,rfl⟩:=h6 l rfl
   obtain ⟨n0,n1⟩:=hn _ rfl
   simp only [F219,zAK,zAC,zAE]
   rw [wI (x:=o1+n) (by omega) (by omega),wI (x:=o1+n - n) (by omega) (by omega),show o1+n - n=o1 by omega]
   by_cases hl:(o0.length:Int)<o1+n
   ·rw [if_pos hl]
    refine ⟨_,_,rfl,?_,?_⟩
    ·have:¬ n≤((o0.drop o1.toNat).length:Int):=by simp only [List.length_drop];omega
     simp only [Option.bind_some,gT,if_neg this,Option.map_none]
     exact ⟨rfl,h2,h3,h4,fun _=>rfl,fun _ h=>by cases h⟩
    ·intro v' l' hv
     have:¬ n≤((o0.drop o1.toNat).length:Int):=by simp only [List.length_drop];omega
     simp only [Option.bind_some,gT,if_neg this] at hv
     cases hv
   ·rw [if_neg hl]
    have hle:n≤((o0.drop o1.toNat).length:Int):=by simp only [List.length_drop];omega
    rw [zCs,zCs,zAW h2,zAW (by omega),zAW (by omega)]
    refine ⟨_,_,rfl,?_,?_⟩
    ·simp only [Option.bind_some,gT,if_pos hle,Option.map_some]
     refine ⟨rfl,by simp only;omega,by simp only;omega,h4,(fun h=>by cases h),fun l h=>⟨rfl,?_⟩⟩
     simp only [Option.some.injEq] at h
     rw [← h,List.drop_drop]
     simp only
     rw [show (o1+n).toNat=o1.toNat+n.toNat by omega]
    ·intro v' l' hv
     simp only [Option.bind_some,gT,if_pos hle,Option.some.injEq,Prod.mk.injEq] at hv
     rw [← hv.1,show (o1+n).toNat=o1.toNat+n.toNat by omega,List.drop_take]
     congr 1
     omega
theorem i57 (n:Int) (s:List UInt8×Bool) (st:Option (List UInt8)) (h:Re2 s st) (hn:∀ l,st=some l→0≤n):Sm Re2 (F57 (n,s)) (st.bind (gT n)):=by
 obtain ⟨o0,o1⟩:=s
 obtain ⟨h4,h5,h6⟩:=h
 simp only at h4 h5 h6
 cases st with
 | none =>
   have:=h5 rfl
   subst this
   refine ⟨[],(o0,true),rfl,⟨h4,fun _=>rfl,fun _ h=>by cases h⟩,fun _ _ h=>by cases h⟩
 | some l =>
   obtain ⟨rfl,rfl⟩:=h6 l rfl
   have n0:=hn _ rfl
   simp only [F57,zAK,zAC,zAE]
   by_cases hl:(l.length:Int)<n
   ·rw [if_pos hl]
    refine ⟨_,_,rfl,?_,?_⟩
    ·simp only [Option.bind_some,gT,if_neg (show ¬ n≤(l.length:Int) by omega),Option.map_none]
     exact ⟨h4,fun _=>rfl,fun _ h=>by cases h⟩
    ·intro v' l' hv
     simp only [Option.bind_some,gT,if_neg (show ¬ n≤(l.length:Int) by omega)] at hv
     cases hv
   ·rw [if_neg hl]
    have hle:n≤(l.length:Int):=by omega
    rw [zCs,zAW n0,zAW hle,zCs,zCs,zAW n0,zAW hle,zAW (Int.le_refl _)]
    have et:List.take (Int.toNat (l.length:Int)) l=l:=by rw [show Int.toNat (l.length:Int)=l.length by omega,List.take_length]
    refine ⟨_,_,rfl,?_,?_⟩
    ·simp only [Option.bind_some,gT,if_pos hle,Option.map_some]
     refine ⟨by rw [et];simp only [List.length_drop];omega,(fun h=>by cases h),fun l' h=>⟨rfl,?_⟩⟩
     simp only [Option.some.injEq] at h
     rw [← h,et]
    ·intro v' l' hv
     simp only [Option.bind_some,gT,if_pos hle,Option.some.injEq,Prod.mk.injEq] at hv
     rw [← hv.1,List.drop_zero]
theorem i59 (s:List UInt8×Bool) (st:Option (List UInt8)) (h:Re2 s st):Sm Re2 (F59 s) (st.bind g1):=by
 obtain ⟨v,s1,e1,e2,e3⟩:=i57 1 s st h fun _ _=>by omega
 obtain ⟨o0,o1⟩:=s
 obtain ⟨p0,p1⟩:=s1
 simp only [F59]
 rw [e1,zAB]
 simp only
 cases st with
 | none =>
   have:=e2.2.1 rfl
   simp only at this
   subst this
   exact ⟨_,_,rfl,e2,fun _ _ h=>by cases h⟩
 | some l =>
   cases l with
   | nil =>
     have hb:=e2.2.1 (by simp [gT])
     simp only at hb
     subst hb
     refine ⟨_,_,rfl,?_,fun _ _ h=>by simp [g1] at h⟩
     simpa [gT,g1] using e2
   | cons x l =>
     have hg:(some (x :: l)).bind (gT 1)=some ([x],l):=by simp [gT];omega
     rw [hg] at e2 e3
     have:=e3 _ _ rfl
     subst this
     have hb:=(e2.2.2 l rfl).1
     simp only at hb
     subst hb
     have hr:=x.toNat_lt
     simp only [zAK,atO,List.getElem?_cons_zero,Int.toNat_zero]
     rw [wI (by omega) (by omega)]
     exact ⟨_,_,rfl,e2,fun v' l' hv=>by simp only [Option.bind_some,g1,Option.some.injEq,Prod.mk.injEq] at hv;exact hv.1⟩
theorem i61 (s:List UInt8×Bool) (st:Option (List UInt8)) (h:Re2 s st):Sm Re2 (F61 s) (st.bind g2):=by
 have e:st.bind g2=(st.bind g1).bind fun p=>(g1 p.2).bind fun q=>some (p.1*256+q.1,q.2):=by cases st <;> rfl
 rw [e]
 refine Sm.bind (k':=fun a l=>(g1 l).bind fun q=>some (a*256+q.1,q.2)) (i59 s st h) fun v s1 st1 h1 e1=>?_
 have e:(st1.bind fun l=>(g1 l).bind fun q=>some (v*256+q.1,q.2))=(st1.bind g1).bind fun q=>some (v*256+q.1,q.2):=by cases st1 <;> rfl
 rw [e]
 refine Sm.bind (k':=fun a l=>some (v*256+a,l)) (i59 s1 st1 h1) fun v2 s2 st2 h2 e2=>?_
 cases st2 with
 | none=>exact ⟨_,_,rfl,h2,fun _ _ h=>by cases h⟩
 | some l2 =>
   have q2:=e2 l2 rfl
   cases st1 with
   | none=>cases q2
   | some l1 =>
     have q1:=e1 l1 rfl
     cases st with
     | none=>cases q1
     | some l =>
       have r1:=zDJ (l:=l) q1
       have r2:=zDJ (l:=l1) q2
       refine ⟨_,_,rfl,h2,fun v' l' hv=>?_⟩
       simp only [Option.bind_some,Option.some.injEq,Prod.mk.injEq] at hv
       rw [← hv.1]
       rw [wI (x:=256*v) (by omega) (by omega),wI (by omega) (by omega)]
       omega
end Go.Proofs.YtdpapeledldifaaGreat
end
section
namespace Go.TM
open Go.AM
section
variable {σ α β R Y:Type}
theorem zAx {r:Option α} {k:α→Option (Y ⊕ R)} {k2:Y→Option R}:bindE (zAA r k) k2=zAA r fun x=>bindE (k x) k2:=by cases r <;> rfl
theorem zCJ {c:Prop} [Decidable c] (A B:Y) (k:Y→Option R):bindE (cndO (decide c) (some (.inl A)) (some (.inl B))) k=k (if c then A else B):=by by_cases h:c <;> simp [h]
variable {Re:σ→Option (List UInt8)→Prop}
theorem Sm.step {F:Option (α×σ)} {g:List UInt8→Option (α×List UInt8)} {st:Option (List UInt8)} {k:α×σ→Option (β×σ)} {k':α→List UInt8→Option (β×List UInt8)}
  (hF:Sm Re F (st.bind g)) (hk:∀ v s' st',Re s' st'→(∀ l',st'=some l'→∃ l,st=some l∧g l=some (v,l'))→Sm Re (k (v,s')) (st'.bind (k' v))) :
  Sm Re (zAA F k) (st.bind fun l=>(g l).bind fun p=>k' p.1 p.2):=by
 have e:(st.bind fun l=>(g l).bind fun p=>k' p.1 p.2)=(st.bind g).bind fun p=>k' p.1 p.2:=by cases st <;> rfl
 rw [e]
 refine Sm.bind hF fun v s' st' h1 h2=>hk v s' st' h1 fun l' hl=>?_
 have:=h2 l' hl
 cases st with
 | none=>cases this
 | some l=>exact ⟨l,rfl,this⟩
theorem zAz {c:Prop} [Decidable c] (st:Option (List UInt8)) (M:List UInt8→Option (β×List UInt8)):(st.bind fun l=>if c then none else M l)=(if c then none else st).bind M:=by
 by_cases h:c <;> cases st <;> simp [h]
theorem zJA {X Y:Type} {f:X→Option (X ⊕ Y)} (mk:List β→Nat→σ→X) (fin:List β→σ→Y) (n:Nat) (g:List UInt8→Option (β×List UInt8)) (s:σ) (st:Option (List UInt8)) (h:Re s st)
  (hbad:∀ out i s,Re s none→f (mk out i s)=some (.inr (fin out s)))
  (hg:∀ l,st=some l→(∀ out s l,Re s (some l)→f (mk out n s)=some (.inr (fin out s))) ∧
   ∀ out i s l,i<n→out.length=i→Re s (some l)→∃ v s',f (mk out i s)=some (.inl (mk (out++[v]) (i+1) s'))∧Re s' ((g l).map (·.2))∧∀ v' l',g l=some (v',l')→v=v') :
   ∃ out' s',zAF f (mk [] 0 s)=some (fin out' s')∧Re s' ((st.bind (gRep g n)).map (·.2))∧∀ vs l',st.bind (gRep g n)=some (vs,l')→out'=vs:=by
 cases st with
 | none =>
   rw [zAk,hbad [] 0 s h]
   exact ⟨[],s,rfl,h,fun _ _ h=>by cases h⟩
 | some l =>
   obtain ⟨h1,h2⟩:=hg l rfl
   obtain ⟨o,s',q1,q2,q3⟩:=loop_sim mk fin n g (fun out i s _ h=>hbad out i s h) h1 h2 [] 0 s (some l) (Nat.zero_le _) (fun _ _=>rfl) h
   exact ⟨o,s',q1,q2,fun vs l' h=>by simpa using q3 vs l' h⟩
theorem Sm.loop {X Y γ:Type} {f:X→Option (X ⊕ (Y ⊕ (γ×σ)))} (mk:List β→Nat→σ→X) (fin:List β→σ→Y) (n:Nat) (g:List UInt8→Option (β×List UInt8)) {s:σ} {st:Option (List UInt8)} (h:Re s st)
  {k:Y→Option (γ×σ)} {k':List β→List UInt8→Option (γ×List UInt8)} {x0:X} (hx:x0=mk [] 0 s)
  (hbad:∀ out i s,Re s none→f (mk out i s)=some (.inr (.inl (fin out s))))
  (hg:∀ l,st=some l→(∀ out s l,Re s (some l)→f (mk out n s)=some (.inr (.inl (fin out s)))) ∧
   ∀ out i s l,i<n→out.length=i→Re s (some l)→∃ v s',f (mk out i s)=some (.inl (mk (out++[v]) (i+1) s'))∧Re s' ((g l).map (·.2))∧∀ v' l',g l=some (v',l')→v=v')
  (hk:∀ out s' st',Re s' st'→Sm Re (k (fin out s')) (st'.bind (k' out))) :
  Sm Re (bindE (zAF f x0) k) (st.bind fun l=>(gRep g n l).bind fun p=>k' p.1 p.2):=by
 obtain ⟨o,s',q1,q2,q3⟩:=zJA mk (fun out s=>(.inl (fin out s):Y ⊕ (γ×σ))) n g s st h hbad hg
 rw [hx,q1,zAC]
 have:=hk o s' _ q2
 have e:(st.bind fun l=>(gRep g n l).bind fun p=>k' p.1 p.2)=(st.bind (gRep g n)).bind fun p=>k' p.1 p.2:=by cases st <;> rfl
 rw [e]
 cases hm:st.bind (gRep g n) with
 | none=>rw [hm] at this;exact this
 | some p =>
   rw [hm] at this
   rw [q3 p.1 p.2 hm] at this ⊢
   exact this
theorem Sm.one {X Y:Type} {r:Option (β×σ)} {m:Option (β×List UInt8)} {q:Option (X ⊕ Y)} {mk:β→σ→X} (h:Sm Re r m) (hq:∀ v s,r=some (v,s)→q=some (.inl (mk v s))) :
  ∃ v s',q=some (.inl (mk v s'))∧Re s' (m.map (·.2))∧∀ v' l',m=some (v',l')→v=v':=by
 obtain ⟨v,s,h1,h2,h3⟩:=h
 exact ⟨v,s,hq v s h1,h2,h3⟩
end
end Go.TM
namespace Go.Proofs.YtdpapeledldifaaGreat
open Go Go.AM Go.TM
theorem Re3.cut {s0 a:List UInt8} {b:Int} {t:Bool} {st:Option (List UInt8)} (c:Prop) [Decidable c] (h:Re3 s0 (a,b,t) st):Re3 s0 (a,b,if c then true else t) (if c then none else st):=by
 by_cases hc:c
 ·simp only [if_pos hc];exact h.bad
 ·simp only [if_neg hc];exact h
def gEnt (t:Int) (l:List UInt8):Option (Cst×List UInt8) :=
 if t=1 then (g1 l).bind fun p=>(gT p.1 p.2).bind fun q=>some ((1,q.1,0,0),q.2)
 else if t=2 then (g2 l).bind fun p=>some ((2,[],p.1,0),p.2)
 else if t=3∨t=4∨t=5∨t=6 then (g2 l).bind fun p=>(g2 p.2).bind fun q=>some ((t,[],p.1,q.1),q.2)
 else none
def zCm (l:List UInt8):Option (Cst×List UInt8):=(g1 l).bind fun p=>gEnt p.1 p.2
theorem s280 {s0:List UInt8} (s:List UInt8×Int×Bool) (st:Option (List UInt8)) (h:Re3 s0 s st):Sm (Re3 s0) (F280 s) (st.bind zCm):=by
 obtain ⟨o0,o1,o2⟩:=s
 simp only [F280]
 refine Sm.step (s221 _ st h) (k':=gEnt) fun v ⟨a,b,c⟩ st1 h1 e1=>?_
 simp only [zAE,zAo]
 by_cases t1:v=1
 ·subst t1
  simp only [gEnt,if_true,zAx,zAC]
  refine Sm.step (s221 _ st1 h1) (k':=fun n l=>(gT n l).bind fun q=>some ((1,q.1,0,0),q.2)) fun n ⟨a2,b2,c2⟩ st2 h2 e2=>?_
  simp only [zAx,zAC]
  refine Sm.step (s219 n _ st2 h2 fun l hl=>?_) (k':=fun q l=>some ((1,q,0,0),l)) fun n ⟨a3,b3,c3⟩ st3 h3 e3=>Sm.ret h3 _
  obtain ⟨_,_,hg⟩:=e2 l hl
  have:=zDJ hg
  omega
 ·by_cases t2:v=2
  ·subst t2
   simp only [gEnt,t1,if_false,if_true,zAx,zAC]
   exact Sm.step (s222 _ st1 h1) (k':=fun n l=>some ((2,[],n,0),l)) fun n ⟨a2,b2,c2⟩ st2 h2 e2=>Sm.ret h2 _
  ·by_cases t3:v=3∨v=4∨v=5∨v=6
   ·have two:Sm (Re3 s0) (zAA (F222 (a,b,c)) fun x=>match x with
      | (y4,y5,y6,y7)=>zAA (F222 (y5,y6,y7)) fun x=>match x with
        | (y8,y9,y10,y11)=>some ((v,([]:List UInt8),y4,y8),y9,y10,y11)) (st1.bind fun l=>(g2 l).bind fun p=>(g2 p.2).bind fun q=>some ((v,[],p.1,q.1),q.2)) :=
     Sm.step (s222 _ st1 h1) (k':=fun n l=>(g2 l).bind fun q=>some ((v,[],n,q.1),q.2)) fun n ⟨a2,b2,c2⟩ st2 h2 e2 =>
      Sm.step (s222 _ st2 h2) (k':=fun q l=>some ((v,[],n,q),l)) fun n ⟨a3,b3,c3⟩ st3 h3 e3=>Sm.ret h3 _
    rcases t3 with rfl | rfl | rfl | rfl <;>
    ·simp only [gEnt,Int.reduceEq,↓reduceIte,zAx,zAC,zAJ,decide_true,or_true,true_or]
     exact two
   ·have h3:¬ v=3:=fun h=>t3 (.inl h)
    have h4:¬ v=4:=fun h=>t3 (.inr (.inl h))
    have h5:¬ v=5:=fun h=>t3 (.inr (.inr (.inl h)))
    have h6:¬ v=6:=fun h=>t3 (.inr (.inr (.inr h)))
    simp only [t1,t2,h3,h4,h5,h6,↓reduceIte,zAC,zAK,decide_false]
    refine ⟨_,_,rfl,?_,?_⟩
    ·cases st1 <;> simp only [Option.bind_none,Option.bind_some,gEnt,t1,t2,h3,h4,h5,h6,↓reduceIte,or_false] <;> exact h1.bad
    ·intro _ _ h;cases st1 <;> simp only [Option.bind_none,Option.bind_some,gEnt,t1,t2,h3,h4,h5,h6,↓reduceIte,or_false] at h <;> cases h
theorem i60 (s:List UInt8×Bool) (st:Option (List UInt8)) (h:Re2 s st):Sm Re2 (F60 s) (st.bind zCm):=by
 obtain ⟨o0,o1⟩:=s
 simp only [F60]
 refine Sm.step (i59 _ st h) (k':=gEnt) fun v ⟨a,c⟩ st1 h1 e1=>?_
 simp only [zAE,zAo]
 by_cases t1:v=1
 ·subst t1
  simp only [gEnt,if_true,zAx,zAC]
  refine Sm.step (i59 _ st1 h1) (k':=fun n l=>(gT n l).bind fun q=>some ((1,q.1,0,0),q.2)) fun n ⟨a2,c2⟩ st2 h2 e2=>?_
  simp only [zAx,zAC]
  refine Sm.step (i57 n _ st2 h2 fun l hl=>?_) (k':=fun q l=>some ((1,q,0,0),l)) fun n ⟨a3,c3⟩ st3 h3 e3=>Sm.ret h3 _
  obtain ⟨_,_,hg⟩:=e2 l hl
  have:=zDJ hg
  omega
 ·by_cases t2:v=2
  ·subst t2
   simp only [gEnt,t1,if_false,if_true,zAx,zAC]
   exact Sm.step (i61 _ st1 h1) (k':=fun n l=>some ((2,[],n,0),l)) fun n ⟨a2,c2⟩ st2 h2 e2=>Sm.ret h2 _
  ·by_cases t3:v=3∨v=4∨v=5∨v=6
   ·have two:Sm Re2 (zAA (F61 (a,c)) fun x=>match x with
      | (y4,y5,y7)=>zAA (F61 (y5,y7)) fun x=>match x with
        | (y8,y9,y11)=>some ((v,([]:List UInt8),y4,y8),y9,y11)) (st1.bind fun l=>(g2 l).bind fun p=>(g2 p.2).bind fun q=>some ((v,[],p.1,q.1),q.2)) :=
     Sm.step (i61 _ st1 h1) (k':=fun n l=>(g2 l).bind fun q=>some ((v,[],n,q.1),q.2)) fun n ⟨a2,c2⟩ st2 h2 e2 =>
      Sm.step (i61 _ st2 h2) (k':=fun q l=>some ((v,[],n,q),l)) fun n ⟨a3,c3⟩ st3 h3 e3=>Sm.ret h3 _
    rcases t3 with rfl | rfl | rfl | rfl <;>
    ·simp only [gEnt,Int.reduceEq,↓reduceIte,zAx,zAC,zAJ,decide_true,or_true,true_or]
     exact two
   ·have h3:¬ v=3:=fun h=>t3 (.inl h)
    have h4:¬ v=4:=fun h=>t3 (.inr (.inl h))
    have h5:¬ v=5:=fun h=>t3 (.inr (.inr (.inl h)))
    have h6:¬ v=6:=fun h=>t3 (.inr (.inr (.inr h)))
    simp only [t1,t2,h3,h4,h5,h6,↓reduceIte,zAC,zAK,decide_false]
    refine ⟨_,_,rfl,?_,?_⟩
    ·cases st1 <;> simp only [Option.bind_none,Option.bind_some,gEnt,t1,t2,h3,h4,h5,h6,↓reduceIte,or_false] <;> exact h1.bad
    ·intro _ _ h;cases st1 <;> simp only [Option.bind_none,Option.bind_some,gEnt,t1,t2,h3,h4,h5,h6,↓reduceIte,or_false] at h <;> cases h
def zBi {β:Type} (most:Int) (g:List UInt8→Option (β×List UInt8)) (l:List UInt8):Option (List β×List UInt8) :=
 (g1 l).bind fun p=>if most<p.1 then none else gRep g p.1.toNat p.2
theorem s220 {s0:List UInt8} (s:List UInt8×Int×Bool) (st:Option (List UInt8)) (h:Re3 s0 s st):Sm (Re3 s0) (F220 s) (st.bind (zBi 60 zCm)):=by
 obtain ⟨o0,o1,o2⟩:=s
 simp only [F220]
 refine Sm.step (s221 _ st h) (k':=fun n l=>if 60<n then none else gRep zCm n.toNat l) fun v ⟨a,b,c⟩ st1 h1 e1=>?_
 simp only [zCJ]
 rw [show (if (60:Int)<v then (([]:List Cst),v,a,b,true) else ([],v,a,b,c))=([],v,a,b,if 60<v then true else c) by split <;> rfl]
 simp only
 rw [zAz]
 have h2:=h1.cut (60<v)
 have e:((if 60<v then none else st1).bind fun l=>gRep zCm v.toNat l)=(if 60<v then none else st1).bind fun l=>(gRep zCm v.toNat l).bind fun p=>some (p.1,p.2):=by
  congr 1;funext l;cases gRep zCm v.toNat l <;> rfl
 rw [e]
 refine Sm.loop (fun out i s=>(out,v,(i:Int),s)) (fun out s=>(out,s)) v.toNat zCm h2 (k':=fun p l=>some (p,l)) rfl ?_ ?_ ?_
 ·intro out i ⟨a,b,c⟩ hs
  have:=hs.2.2.2.2.1 rfl
  simp only at this
  subst this
  by_cases hi:(i:Int)<v <;> simp only [hi,decide_true,decide_false,zAJ,zAK,Bool.not_true,zAH]
 ·intro l hl
  have hv:0≤v∧v≤60:=by
   split at hl
   ·cases hl
   ·obtain ⟨_,_,hg⟩:=e1 l hl
    have:=zDJ hg
    omega
  refine ⟨fun out ⟨a,b,c⟩ l hs=>?_,fun out i ⟨a,b,c⟩ l hi ho hs=>?_⟩
  ·have hi:¬ ((v.toNat:Int)<v):=by omega
   simp only [hi,decide_false,zAK,zAH]
  ·have hi':(i:Int)<v:=by omega
   have hc:=(hs.2.2.2.2.2 l rfl).1
   simp only at hc
   subst hc
   obtain ⟨w,⟨a2,b2,c2⟩,r1,r2,r3⟩:=s280 (a,b,false) (some l) hs
   simp only [hi',decide_true,zAJ,Bool.not_false,zAC,r1,zAB]
   rw [zCs,zAW (by omega),zAW (by omega),wI (by omega) (by omega)]
   exact ⟨w,_,rfl,r2,r3⟩
 ·intro out ⟨a,b,c⟩ st' hs
  exact Sm.ret hs _
end Go.Proofs.YtdpapeledldifaaGreat
end
section
namespace Go.Proofs.YtdpapeledldifaaGreat
open Go Go.AM Go.TM
end Go.Proofs.YtdpapeledldifaaGreat
namespace Go.TM
open Go.AM
section
variable {σ α β Z:Type}
def St (Re:σ→Option (List UInt8)→Prop) (q:Option Z) (mk:β→σ→Z) (m:Option (β×List UInt8)):Prop :=
 ∃ v s,q=some (mk v s)∧Re s (m.map (·.2))∧∀ v' l,m=some (v',l)→v=v'
variable {Re:σ→Option (List UInt8)→Prop}
theorem St.step {F:Option (α×σ)} {g:List UInt8→Option (α×List UInt8)} {st:Option (List UInt8)} {k:α×σ→Option Z} {mk:β→σ→Z} {k':α→List UInt8→Option (β×List UInt8)}
  (hF:Sm Re F (st.bind g)) (hk:∀ v s' st',Re s' st'→St Re (k (v,s')) mk (st'.bind (k' v))) :
  St Re (zAA F k) mk (st.bind fun l=>(g l).bind fun p=>k' p.1 p.2):=by
 have e:(st.bind fun l=>(g l).bind fun p=>k' p.1 p.2)=(st.bind g).bind fun p=>k' p.1 p.2:=by cases st <;> rfl
 rw [e]
 obtain ⟨v,s,hr,h1,h2⟩:=hF
 rw [hr,zAB]
 have:=hk v s _ h1
 cases hm:st.bind g with
 | none=>rw [hm] at this;exact this
 | some p =>
   rw [hm] at this h2
   have e:=h2 p.1 p.2 rfl
   subst e
   exact this
theorem St.last {F:Option (β×σ)} {g:List UInt8→Option (β×List UInt8)} {st:Option (List UInt8)} {k:β×σ→Option Z} {mk:β→σ→Z} (hF:Sm Re F (st.bind g)) (hk:∀ v s',k (v,s')=some (mk v s')):St Re (zAA F k) mk (st.bind g):=by
 obtain ⟨v,s,hr,h1,h2⟩:=hF
 rw [hr,zAB,hk]
 exact ⟨v,s,rfl,h1,h2⟩
theorem St.ret {s:σ} {st:Option (List UInt8)} {mk:β→σ→Z} (h:Re s st) (v:β):St Re (some (mk v s)) mk (st.bind fun l=>some (v,l)):=by
 refine ⟨v,s,rfl,?_,fun v' l hl=>?_⟩
 ·cases st with
  | none=>exact h
  | some l=>exact h
 ·cases st with
  | none=>cases hl
  | some l=>simp only [Option.bind_some,Option.some.injEq,Prod.mk.injEq] at hl;exact hl.1
end
end Go.TM
namespace Go.Proofs.YtdpapeledldifaaGreat
open Go Go.AM Go.TM
theorem zBK {β γ:Type} (most:Int) (g:List UInt8→Option (β×List UInt8)) (K:List β→List UInt8→Option (γ×List UInt8)) :
  (fun l=>(zBi most g l).bind fun p=>K p.1 p.2)=fun l=>(g1 l).bind fun p=>if most<p.1 then none else (gRep g p.1.toNat p.2).bind fun q=>K q.1 q.2:=by
 funext l
 unfold zBi
 cases g1 l with
 | none=>rfl
 | some p=>simp only [Option.bind_some];split <;> rfl
theorem zSZ {β:Type} (m:List UInt8→Option (β×List UInt8)):(fun l=>(m l).bind fun p=>some (p.1,p.2))=m:=by funext l;cases m l <;> rfl
theorem zDl {most v:Int} {st st1:Option (List UInt8)} (e1:∀ l',st1=some l'→∃ l,st=some l∧g1 l=some (v,l')) {l:List UInt8} (hl:(if most<v then none else st1)=some l):0≤v∧v≤most:=by
 split at hl
 ·cases hl
 ·obtain ⟨_,_,hg⟩:=e1 l hl
  have:=zDJ hg
  omega
def gKnd (l:List UInt8):Option (Knd×List UInt8):=(g1 l).bind fun p=>if p.1=3 then (g2 p.2).bind fun q=>some ((3,q.1),q.2) else if 3<p.1 then none else some ((p.1,0),p.2)
def gTrp (l:List UInt8):Option (Trp×List UInt8):=(g2 l).bind fun p=>(g2 p.2).bind fun q=>(g2 q.2).bind fun r=>(g2 r.2).bind fun s=>some ((p.1,q.1,r.1,s.1),s.2)
def gFrm (l:List UInt8):Option (Frm×List UInt8):=(g2 l).bind fun p=>(zBi 8 gKnd p.2).bind fun q=>(zBi 8 gKnd q.2).bind fun r=>some ((p.1,q.1,r.1),r.2)
def gFld (l:List UInt8):Option (Fld×List UInt8):=(g1 l).bind fun p=>(g2 p.2).bind fun q=>(g2 q.2).bind fun r=>some ((p.1,q.1,r.1),r.2)
def zGQ (y:Int):Prop:=Int.tdiv (Int.tmod y 16) 8=1
instance (y:Int):Decidable (zGQ y):=inferInstanceAs (Decidable (Int.tdiv (Int.tmod y 16) 8=1))
def b7 (f n d s lo:Int) (code:List UInt8) (tr:List Trp) (l:List UInt8):Option (Mth×List UInt8):=(zBi 8 gFrm l).bind fun p=>some ((f,n,d,s,lo,code,tr,p.1),p.2)
def b6 (f n d s lo:Int) (code:List UInt8) (l:List UInt8):Option (Mth×List UInt8):=(zBi 3 gTrp l).bind fun p=>b7 f n d s lo code p.1 p.2
def b5 (f n d s lo c:Int) (l:List UInt8):Option (Mth×List UInt8):=if 120<c then none else (gT c l).bind fun p=>b6 f n d s lo p.1 p.2
def b4 (f n d s lo:Int) (l:List UInt8):Option (Mth×List UInt8):=(g2 l).bind fun p=>b5 f n d s lo p.1 p.2
def b3 (f n d s:Int) (l:List UInt8):Option (Mth×List UInt8):=(g1 l).bind fun p=>b4 f n d s p.1 p.2
def zVb (f n d:Int) (l:List UInt8):Option (Mth×List UInt8):=(g1 l).bind fun p=>b3 f n d p.1 p.2
def m3 (f n d:Int) (l:List UInt8):Option (Mth×List UInt8):=if zGQ f then some ((f,n,d,0,0,[],[],[]),l) else zVb f n d l
def m2 (f n:Int) (l:List UInt8):Option (Mth×List UInt8):=(g2 l).bind fun p=>m3 f n p.1 p.2
def m1 (f:Int) (l:List UInt8):Option (Mth×List UInt8):=(g2 l).bind fun p=>m2 f p.1 p.2
def gMth (l:List UInt8):Option (Mth×List UInt8):=(g1 l).bind fun p=>m1 p.1 p.2
def gc8 (pool:List Cst) (f n s:Int) (fa:List Int) (fi:List Fld) (l:List UInt8):Option (Cls×List UInt8):=(zBi 6 gMth l).bind fun p=>some ((pool,f,n,s,fa,fi,p.1),p.2)
def gc7 (pool:List Cst) (f n s:Int) (fa:List Int) (l:List UInt8):Option (Cls×List UInt8):=(zBi 5 gFld l).bind fun p=>gc8 pool f n s fa p.1 p.2
def gc6' (pool:List Cst) (f n s:Int) (l:List UInt8):Option (Cls×List UInt8):=(zBi 3 g2 l).bind fun p=>gc7 pool f n s p.1 p.2
def gc5 (pool:List Cst) (f n:Int) (l:List UInt8):Option (Cls×List UInt8):=(g2 l).bind fun p=>gc6' pool f n p.1 p.2
def gc4 (pool:List Cst) (f:Int) (l:List UInt8):Option (Cls×List UInt8):=(g2 l).bind fun p=>gc5 pool f p.1 p.2
def gc3 (pool:List Cst) (l:List UInt8):Option (Cls×List UInt8):=(g1 l).bind fun p=>gc4 pool p.1 p.2
def gc2 (l:List UInt8):Option (Cls×List UInt8):=(zBi 60 zCm l).bind fun p=>gc3 p.1 p.2
def gc1 (t:List UInt8) (l:List UInt8):Option (Cls×List UInt8):=if ¬ t=[83,84,79,87] then none else gc2 l
def gCls (l:List UInt8):Option (Cls×List UInt8):=(gT 4 l).bind fun p=>gc1 p.1 p.2
theorem s317 {s0:List UInt8} (s:List UInt8×Int×Bool) (st:Option (List UInt8)) (h:Re3 s0 s st):Sm (Re3 s0) (F317 s) (st.bind (zBi 8 gKnd)):=by
 obtain ⟨o0,o1,o2⟩:=s
 simp only [F317]
 rw [← zSZ (zBi 8 gKnd),zBK 8 gKnd fun p l=>some (p,l)]
 refine Sm.step (s221 _ st h) (k':=fun n l=>if 8<n then none else (gRep gKnd n.toNat l).bind fun q=>some (q.1,q.2)) fun v ⟨a,b,c⟩ st1 h1 e1=>?_
 simp only [zCJ]
 rw [show (if (8:Int)<v then (([]:List Knd),v,a,b,true) else ([],v,a,b,c))=([],v,a,b,if 8<v then true else c) by split <;> rfl]
 simp only
 rw [zAz]
 have h2:=h1.cut (8<v)
 refine Sm.loop (fun out i s=>(out,v,(i:Int),s)) (fun out s=>(out,s)) v.toNat gKnd h2 (k':=fun p l=>some (p,l)) rfl ?_ ?_ ?_
 ·intro out i ⟨a,b,c⟩ hs
  have:=hs.2.2.2.2.1 rfl
  simp only at this
  subst this
  by_cases hi:(i:Int)<v <;> simp only [hi,decide_true,decide_false,zAJ,zAK,Bool.not_true,zAH]
 ·intro l hl
  have hv:=zDl e1 hl
  refine ⟨fun out ⟨a,b,c⟩ l hs=>?_,fun out i ⟨a,b,c⟩ l hi ho hs=>?_⟩
  ·have hi:¬ ((v.toNat:Int)<v):=by omega
   simp only [hi,decide_false,zAK,zAH]
  ·have hi':(i:Int)<v:=by omega
   have hc:=(hs.2.2.2.2.2 l rfl).1
   simp only at hc
   subst hc
   simp only [hi',decide_true,zAJ,Bool.not_false,zAC]
   have hk:Sm (Re3 s0) (zAA (F221 (a,b,false)) fun x=>match x with
     | (y4,y5,y6,y7)=>bindE (Y:=(Int×Int)×List UInt8×Int×Bool) (cndO (decide (y4=3)) (zAA (F222 (y5,y6,y7)) fun x=>match x with | (y8,y9,y10,y11)=>some (.inl ((y4,y8),y9,y10,y11))) (some (.inl ((y4,0),y5,y6,y7))))
       fun x=>match x with | ((o04,o14),o05,o15,o24)=>cndO (decide (3<o04)) (some ((o04,o14),o05,o15,true)) (some ((o04,o14),o05,o15,o24))) ((some l).bind gKnd):=by
    refine Sm.step (s221 _ _ hs) (k':=fun p l=>if p=3 then (g2 l).bind fun q=>some ((3,q.1),q.2) else if 3<p then none else some ((p,0),l)) fun w ⟨a2,b2,gc2⟩ st2 h2 e2=>?_
    simp only [zAE,zAo]
    by_cases hw:w=3
    ·subst hw
     simp only [↓reduceIte,zAx,zAC,Int.lt_irrefl]
     exact Sm.step (s222 _ st2 h2) (k':=fun q l=>some ((3,q),l)) fun n ⟨a3,b3,gc3⟩ st3 h3 e3=>Sm.ret h3 _
    ·simp only [hw,↓reduceIte,zAC]
     rw [zAz]
     by_cases h3:3<w
     ·simp only [h3,↓reduceIte]
      exact ⟨_,_,rfl,h2.bad,fun _ _ h=>by cases h⟩
     ·simp only [h3,↓reduceIte]
      exact Sm.ret h2 _
   refine hk.one (mk:=fun w s=>(out++[w],v,((i+1:Nat):Int),s)) fun w s' hr=>?_
   rcases h221:F221 (a,b,false) with _ | ⟨y4,y5,y6,y7⟩
   ·rw [h221] at hr;cases hr
   ·rw [h221] at hr
    simp only [zAB,zAE,zAo] at hr ⊢
    have ho1:out.length+1≤9223372036854775807:=by omega
    have ho2:(out.length+1)*16≤140737488355328:=by omega
    have hwi:IntKind.wrap .i64 ((i:Int)+1)=((i+1:Nat):Int):=by rw [wI (by omega) (by omega)];omega
    by_cases hy:y4=3
    ·subst hy
     simp only [↓reduceIte,zAx,zAC,Int.lt_irrefl] at hr ⊢
     rcases h222:F222 (y5,y6,y7) with _ | ⟨y8,y9,y10,y11⟩
     ·rw [h222] at hr;cases hr
     ·rw [h222] at hr
      simp only [zAB,Option.some.injEq,Prod.mk.injEq] at hr ⊢
      obtain ⟨rfl,rfl⟩:=hr
      simp only [ho1,ho2,decide_true,Bool.and_true,zAG,zAC,hwi]
    ·simp only [hy,↓reduceIte,zAC] at hr ⊢
     by_cases h3:3<y4
     ·simp only [h3,↓reduceIte,Option.some.injEq,Prod.mk.injEq] at hr ⊢
      obtain ⟨rfl,rfl⟩:=hr
      simp only [ho1,ho2,decide_true,Bool.and_true,zAG,zAC,hwi]
     ·simp only [h3,↓reduceIte,Option.some.injEq,Prod.mk.injEq] at hr ⊢
      obtain ⟨rfl,rfl⟩:=hr
      simp only [ho1,ho2,decide_true,Bool.and_true,zAG,zAC,hwi]
 ·intro out ⟨a,b,c⟩ st' hs
  exact Sm.ret hs _
theorem s281 {s0:List UInt8} (vf vn vd:Int) (s:List UInt8×Int×Bool) (st:Option (List UInt8)) (h:Re3 s0 s st):Sm (Re3 s0) (F281 ((vf,vn,vd,0,0,[]),s)) (st.bind (zVb vf vn vd)):=by
 obtain ⟨o0,o1,o2⟩:=s
 simp only [F281]
 refine Sm.step (s221 _ st h) (k':=b3 vf vn vd) fun vs ⟨a,b,c⟩ st1 h1 e1=>?_
 refine Sm.step (s221 _ st1 h1) (k':=b4 vf vn vd vs) fun vl ⟨a,b,c⟩ st2 h2 e2=>?_
 refine Sm.step (s222 _ st2 h2) (k':=b5 vf vn vd vs vl) fun v ⟨a,b,c⟩ st3 h3 e3=>?_
 show Sm _ _ (st3.bind fun l=>if 120<v then none else (gT v l).bind fun p=>b6 vf vn vd vs vl p.1 p.2)
 simp only [zCJ]
 rw [show (if (120:Int)<v then (v,(vf,vn,vd,vs,vl,([]:List UInt8),([]:List Trp),([]:List Frm)),((0:Int),(0:Int),(0:Int),(0:Int),(0:Int),([]:List UInt8),([]:List Trp),([]:List Frm)),a,b,true) else (v,(vf,vn,vd,vs,vl,([]:List UInt8),([]:List Trp),([]:List Frm)),((0:Int),(0:Int),(0:Int),(0:Int),(0:Int),([]:List UInt8),([]:List Trp),([]:List Frm)),a,b,c))=(v,(vf,vn,vd,vs,vl,([]:List UInt8),([]:List Trp),([]:List Frm)),((0:Int),(0:Int),(0:Int),(0:Int),(0:Int),([]:List UInt8),([]:List Trp),([]:List Frm)),a,b,if 120<v then true else c) by split <;> rfl]
 simp only
 rw [zAz]
 have h4:=h3.cut (120<v)
 refine Sm.step (s219 v _ _ h4 fun l hl=>?_) (k':=b6 vf vn vd vs vl) fun vc ⟨a,b,c⟩ st4 h5 e4=>?_
 ·split at hl
  ·cases hl
  ·obtain ⟨_,_,hg⟩:=e3 l hl
   exact zVc hg
 show Sm _ _ (st4.bind fun l=>(zBi 3 gTrp l).bind fun p=>b7 vf vn vd vs vl vc p.1 p.2)
 rw [zBK 3 gTrp (b7 vf vn vd vs vl vc)]
 refine Sm.step (s221 _ st4 h5) (k':=fun n l=>if 3<n then none else (gRep gTrp n.toNat l).bind fun q=>b7 vf vn vd vs vl vc q.1 q.2) fun v2 ⟨a,b,c⟩ st5 h6 e5=>?_
 simp only [zCJ]
 rw [show (if (3:Int)<v2 then (v2,(vf,vn,vd,vs,vl,vc,([]:List Trp),([]:List Frm)),((0:Int),(0:Int),(0:Int),(0:Int),(0:Int),([]:List UInt8),([]:List Trp),([]:List Frm)),a,b,true) else (v2,(vf,vn,vd,vs,vl,vc,([]:List Trp),([]:List Frm)),((0:Int),(0:Int),(0:Int),(0:Int),(0:Int),([]:List UInt8),([]:List Trp),([]:List Frm)),a,b,c))=(v2,(vf,vn,vd,vs,vl,vc,([]:List Trp),([]:List Frm)),((0:Int),(0:Int),(0:Int),(0:Int),(0:Int),([]:List UInt8),([]:List Trp),([]:List Frm)),a,b,if 3<v2 then true else c) by split <;> rfl]
 simp only
 rw [zAz]
 have h7:=h6.cut (3<v2)
 refine Sm.loop (fun out i s=>(v2,(i:Int),(vf,vn,vd,vs,vl,vc,out,([]:List Frm)),((0:Int),(0:Int),(0:Int),(0:Int),(0:Int),([]:List UInt8),([]:List Trp),([]:List Frm)),s)) (fun out s=>((vf,vn,vd,vs,vl,vc,out,([]:List Frm)),((0:Int),(0:Int),(0:Int),(0:Int),(0:Int),([]:List UInt8),([]:List Trp),([]:List Frm)),s)) v2.toNat gTrp h7 (k':=b7 vf vn vd vs vl vc) rfl ?_ ?_ ?_
 ·intro out i ⟨a,b,c⟩ hs
  have:=hs.2.2.2.2.1 rfl
  simp only at this
  subst this
  by_cases hi:(i:Int)<v2 <;> simp only [hi,decide_true,decide_false,zAJ,zAK,Bool.not_true,zAH]
 ·intro l hl
  have hv:=zDl e5 hl
  refine ⟨fun out ⟨a,b,c⟩ l hs=>?_,fun out i ⟨a,b,c⟩ l hi ho hs=>?_⟩
  ·have hi:¬ ((v2.toNat:Int)<v2):=by omega
   simp only [hi,decide_false,zAK,zAH]
  ·have hi':(i:Int)<v2:=by omega
   have hc:=(hs.2.2.2.2.2 l rfl).1
   simp only at hc
   subst hc
   simp only [hi',decide_true,zAJ,Bool.not_false,zAC]
   have ho1:out.length+1≤9223372036854775807:=by omega
   have ho2:(out.length+1)*32≤140737488355328:=by omega
   have hwi:IntKind.wrap .i64 ((i:Int)+1)=((i+1:Nat):Int):=by rw [wI (by omega) (by omega)];omega
   show St (Re3 s0) _ (fun w s'=>Sum.inl ((v2,((i+1:Nat):Int),(vf,vn,vd,vs,vl,vc,out++[w],([]:List Frm)),((0:Int),(0:Int),(0:Int),(0:Int),(0:Int),([]:List UInt8),([]:List Trp),([]:List Frm)),s'))) ((some l).bind gTrp)
   refine St.step (s222 _ _ hs) (k':=fun p l=>(g2 l).bind fun q=>(g2 q.2).bind fun r=>(g2 r.2).bind fun s=>some ((p,q.1,r.1,s.1),s.2)) fun w0 ⟨a5,b5,gc5⟩ t0 g0=>?_
   refine St.step (s222 _ _ g0) (k':=fun q l=>(g2 l).bind fun r=>(g2 r.2).bind fun s=>some ((w0,q,r.1,s.1),s.2)) fun w1 ⟨a6,b6,gc6⟩ t1 g1=>?_
   refine St.step (s222 _ _ g1) (k':=fun r l=>(g2 l).bind fun s=>some ((w0,w1,r,s.1),s.2)) fun w2 ⟨a7,b7,gc7⟩ t2 g2=>?_
   refine St.step (s222 _ _ g2) (k':=fun s l=>some ((w0,w1,w2,s),l)) fun w3 ⟨a8,b8,gc8⟩ t3 g3=>?_
   simp only [ho1,ho2,decide_true,Bool.and_true,zAG,hwi]
   exact St.ret (mk:=fun w s'=>Sum.inl ((v2,((i+1:Nat):Int),(vf,vn,vd,vs,vl,vc,out++[w],([]:List Frm)),((0:Int),(0:Int),(0:Int),(0:Int),(0:Int),([]:List UInt8),([]:List Trp),([]:List Frm)),s'))) g3 _
 ·intro out ⟨a,b,c⟩ st' hs
  show Sm _ _ (st'.bind fun l=>(zBi 8 gFrm l).bind fun p=>some ((vf,vn,vd,vs,vl,vc,out,p.1),p.2))
  rw [zBK 8 gFrm fun p l=>some ((vf,vn,vd,vs,vl,vc,out,p),l)]
  refine Sm.step (s221 _ _ hs) (k':=fun n l=>if 8<n then none else (gRep gFrm n.toNat l).bind fun q=>some ((vf,vn,vd,vs,vl,vc,out,q.1),q.2)) fun v3 ⟨a,b,c⟩ st6 h8 e6=>?_
  simp only [zCJ]
  rw [show (if (8:Int)<v3 then (v3,(vf,vn,vd,vs,vl,vc,out,([]:List Frm)),((0:Int),(0:Int),(0:Int),(0:Int),(0:Int),([]:List UInt8),([]:List Trp),([]:List Frm)),a,b,true) else (v3,(vf,vn,vd,vs,vl,vc,out,([]:List Frm)),((0:Int),(0:Int),(0:Int),(0:Int),(0:Int),([]:List UInt8),([]:List Trp),([]:List Frm)),a,b,c))=(v3,(vf,vn,vd,vs,vl,vc,out,([]:List Frm)),((0:Int),(0:Int),(0:Int),(0:Int),(0:Int),([]:List UInt8),([]:List Trp),([]:List Frm)),a,b,if 8<v3 then true else c) by split <;> rfl]
  simp only
  rw [zAz]
  have h9:=h8.cut (8<v3)
  generalize out=tr
  refine Sm.loop (fun out i s=>(v3,(i:Int),(vf,vn,vd,vs,vl,vc,tr,out),((0:Int),(0:Int),(0:Int),(0:Int),(0:Int),([]:List UInt8),([]:List Trp),([]:List Frm)),s)) (fun out s=>((vf,vn,vd,vs,vl,vc,tr,out),((0:Int),(0:Int),(0:Int),(0:Int),(0:Int),([]:List UInt8),([]:List Trp),([]:List Frm)),s)) v3.toNat gFrm h9 (k':=fun p l=>some ((vf,vn,vd,vs,vl,vc,tr,p),l)) rfl ?_ ?_ ?_
  ·intro out i ⟨a,b,c⟩ hs
   have:=hs.2.2.2.2.1 rfl
   simp only at this
   subst this
   by_cases hi:(i:Int)<v3 <;> simp only [hi,decide_true,decide_false,zAJ,zAK,Bool.not_true,zAH]
  ·intro l hl
   have hv:=zDl e6 hl
   refine ⟨fun out ⟨a,b,c⟩ l hs=>?_,fun out i ⟨a,b,c⟩ l hi ho hs=>?_⟩
   ·have hi:¬ ((v3.toNat:Int)<v3):=by omega
    simp only [hi,decide_false,zAK,zAH]
   ·have hi':(i:Int)<v3:=by omega
    have hc:=(hs.2.2.2.2.2 l rfl).1
    simp only at hc
    subst hc
    simp only [hi',decide_true,zAJ,Bool.not_false,zAC]
    have ho1:out.length+1≤9223372036854775807:=by omega
    have ho2:(out.length+1)*56≤140737488355328:=by omega
    have hwi:IntKind.wrap .i64 ((i:Int)+1)=((i+1:Nat):Int):=by rw [wI (by omega) (by omega)];omega
    show St (Re3 s0) _ (fun w s'=>Sum.inl ((v3,((i+1:Nat):Int),(vf,vn,vd,vs,vl,vc,tr,out++[w]),((0:Int),(0:Int),(0:Int),(0:Int),(0:Int),([]:List UInt8),([]:List Trp),([]:List Frm)),s'))) ((some l).bind gFrm)
    refine St.step (s222 _ _ hs) (k':=fun p l=>(zBi 8 gKnd l).bind fun q=>(zBi 8 gKnd q.2).bind fun r=>some ((p,q.1,r.1),r.2)) fun w0 ⟨a5,b5,gc5⟩ t0 g0=>?_
    refine St.step (s317 _ _ g0) (k':=fun q l=>(zBi 8 gKnd l).bind fun r=>some ((w0,q,r.1),r.2)) fun w1 ⟨a6,b6,gc6⟩ t1 g1=>?_
    refine St.step (s317 _ _ g1) (k':=fun r l=>some ((w0,w1,r),l)) fun w2 ⟨a7,b7,gc7⟩ t2 g2=>?_
    simp only [ho1,ho2,decide_true,Bool.and_true,zAG,hwi]
    exact St.ret (mk:=fun w s'=>Sum.inl ((v3,((i+1:Nat):Int),(vf,vn,vd,vs,vl,vc,tr,out++[w]),((0:Int),(0:Int),(0:Int),(0:Int),(0:Int),([]:List UInt8),([]:List Trp),([]:List Frm)),s'))) g2 _
  ·intro out ⟨a,b,c⟩ st' hs
   exact Sm.ret hs _
theorem s223 {s0:List UInt8} (s:List UInt8×Int×Bool) (st:Option (List UInt8)) (h:Re3 s0 s st):Sm (Re3 s0) (F223 s) (st.bind gMth):=by
 obtain ⟨o0,o1,o2⟩:=s
 simp only [F223]
 refine Sm.step (s221 _ st h) (k':=m1) fun vf ⟨a,b,c⟩ st1 h1 e1=>?_
 refine Sm.step (s222 _ st1 h1) (k':=m2 vf) fun vn ⟨a,b,c⟩ st2 h2 e2=>?_
 refine Sm.step (s222 _ st2 h2) (k':=m3 vf vn) fun vd ⟨a,b,c⟩ st3 h3 e3=>?_
 have hw:IntKind.wrap .i64 (Int.tdiv (Int.tmod vf 16) 8)=Int.tdiv (Int.tmod vf 16) 8:=by
  have h1:=Int.tmod_lt_of_pos vf (show (0:Int)<16 by omega)
  have h2 : -16<Int.tmod vf 16:=by
   rcases Int.lt_or_le vf 0 with hv | hv
   ·have e:Int.tmod vf 16 = - Int.tmod (-vf) 16:=by rw [Int.neg_tmod];omega
    have:=Int.tmod_lt_of_pos (-vf) (show (0:Int)<16 by omega)
    omega
   ·have:=Int.tmod_nonneg 16 hv;omega
  generalize Int.tmod vf 16=q at h1 h2
  have h3 : -3<Int.tdiv q 8:=by
   rcases Int.lt_or_le q 0 with hq | hq
   ·have e:Int.tdiv q 8 = - Int.tdiv (-q) 8:=by rw [Int.neg_tdiv];omega
    have:Int.tdiv (-q) 8=(-q) / 8:=Int.tdiv_eq_ediv_of_nonneg (by omega)
    omega
   ·have:Int.tdiv q 8=q / 8:=Int.tdiv_eq_ediv_of_nonneg hq
    omega
  have h4:Int.tdiv q 8<3:=by
   rcases Int.lt_or_le q 0 with hq | hq
   ·have e:Int.tdiv q 8 = - Int.tdiv (-q) 8:=by rw [Int.neg_tdiv];omega
    have:Int.tdiv (-q) 8=(-q) / 8:=Int.tdiv_eq_ediv_of_nonneg (by omega)
    omega
   ·have:Int.tdiv q 8=q / 8:=Int.tdiv_eq_ediv_of_nonneg hq
    omega
  exact wI (by omega) (by omega)
 simp only [hw,zAE]
 by_cases hab:zGQ vf
 ·rw [if_pos (show Int.tdiv (Int.tmod vf 16) 8=1 from hab)]
  have e:m3 vf vn vd=fun l=>some ((vf,vn,vd,0,0,[],[],[]),l):=by funext l;simp only [m3,if_pos hab]
  rw [e]
  exact Sm.ret h3 _
 ·rw [if_neg (show ¬ Int.tdiv (Int.tmod vf 16) 8=1 from hab)]
  have e:m3 vf vn vd=fun l=>(zVb vf vn vd l).bind fun p=>some (p.1,p.2):=by funext l;simp only [m3,if_neg hab];cases zVb vf vn vd l <;> rfl
  rw [e]
  exact Sm.step (s281 vf vn vd _ st3 h3) (k':=fun p l=>some (p,l)) fun m ⟨a,b,c⟩ st4 h4 e4=>Sm.ret h4 _
theorem s142 {s0:List UInt8} (s:List UInt8×Int×Bool) (st:Option (List UInt8)) (h:Re3 s0 s st):Sm (Re3 s0) (F142 s) (st.bind gCls):=by
 obtain ⟨o0,o1,o2⟩:=s
 simp only [F142,zAx,zAS,zCJ]
 refine Sm.step (s219 4 _ st h fun _ _=>by omega) (k':=gc1) fun vt ⟨a,b,c⟩ st1 h1 e1=>?_
 simp only
 rw [show (if vt=[83,84,79,87] then ((([]:List Cst),(0:Int),(0:Int),(0:Int),([]:List Int),([]:List Fld),([]:List Mth)),(([]:List Cst),(0:Int),(0:Int),(0:Int),([]:List Int),([]:List Fld),([]:List Mth)),a,b,c) else ((([]:List Cst),(0:Int),(0:Int),(0:Int),([]:List Int),([]:List Fld),([]:List Mth)),(([]:List Cst),(0:Int),(0:Int),(0:Int),([]:List Int),([]:List Fld),([]:List Mth)),a,b,true))=((([]:List Cst),(0:Int),(0:Int),(0:Int),([]:List Int),([]:List Fld),([]:List Mth)),(([]:List Cst),(0:Int),(0:Int),(0:Int),([]:List Int),([]:List Fld),([]:List Mth)),a,b,if ¬ vt=[83,84,79,87] then true else c) by by_cases hvt:vt=[83,84,79,87] <;> simp [hvt]]
 simp only
 show Sm _ _ (st1.bind fun l=>if ¬ vt=[83,84,79,87] then none else gc2 l)
 rw [zAz]
 refine Sm.step (s220 _ _ (h1.cut _)) (k':=gc3) fun vp ⟨a,b,c⟩ st2 h2 e2=>?_
 refine Sm.step (s221 _ _ h2) (k':=gc4 vp) fun vf ⟨a,b,c⟩ st3 h3 e3=>?_
 refine Sm.step (s222 _ _ h3) (k':=gc5 vp vf) fun vn ⟨a,b,c⟩ st4 h4 e4=>?_
 refine Sm.step (s222 _ _ h4) (k':=gc6' vp vf vn) fun vs ⟨a,b,c⟩ st5 h5 e5=>?_
 show Sm _ _ (st5.bind fun l=>(zBi 3 g2 l).bind fun p=>gc7 vp vf vn vs p.1 p.2)
 rw [zBK 3 g2 (gc7 vp vf vn vs)]
 refine Sm.step (s221 _ _ h5) (k':=fun n l=>if 3<n then none else (gRep g2 n.toNat l).bind fun q=>gc7 vp vf vn vs q.1 q.2) fun v1 ⟨a,b,c⟩ st6 h6 e6=>?_
 simp only [zCJ]
 rw [show (if (3:Int)<v1 then (v1,(([]:List Cst),(0:Int),(0:Int),(0:Int),([]:List Int),([]:List Fld),([]:List Mth)),(vp,vf,vn,vs,([]:List Int),([]:List Fld),([]:List Mth)),a,b,true) else (v1,(([]:List Cst),(0:Int),(0:Int),(0:Int),([]:List Int),([]:List Fld),([]:List Mth)),(vp,vf,vn,vs,([]:List Int),([]:List Fld),([]:List Mth)),a,b,c))=(v1,(([]:List Cst),(0:Int),(0:Int),(0:Int),([]:List Int),([]:List Fld),([]:List Mth)),(vp,vf,vn,vs,([]:List Int),([]:List Fld),([]:List Mth)),a,b,if 3<v1 then true else c) by split <;> rfl]
 simp only
 rw [zAz]
 have h7:=h6.cut (3<v1)
 refine Sm.loop (fun out i s=>(v1,(i:Int),(([]:List Cst),(0:Int),(0:Int),(0:Int),([]:List Int),([]:List Fld),([]:List Mth)),(vp,vf,vn,vs,out,([]:List Fld),([]:List Mth)),s)) (fun out s=>((([]:List Cst),(0:Int),(0:Int),(0:Int),([]:List Int),([]:List Fld),([]:List Mth)),(vp,vf,vn,vs,out,([]:List Fld),([]:List Mth)),s)) v1.toNat g2 h7 (k':=gc7 vp vf vn vs) rfl ?_ ?_ ?_
 ·intro out i ⟨a,b,c⟩ hs
  have:=hs.2.2.2.2.1 rfl
  simp only at this
  subst this
  by_cases hi:(i:Int)<v1 <;> simp only [hi,decide_true,decide_false,zAJ,zAK,Bool.not_true,zAH]
 ·intro l hl
  have hv:=zDl e6 hl
  refine ⟨fun out ⟨a,b,c⟩ l hs=>?_,fun out i ⟨a,b,c⟩ l hi ho hs=>?_⟩
  ·have hi:¬ ((v1.toNat:Int)<v1):=by omega
   simp only [hi,decide_false,zAK,zAH]
  ·have hi':(i:Int)<v1:=by omega
   have hc:=(hs.2.2.2.2.2 l rfl).1
   simp only at hc
   subst hc
   simp only [hi',decide_true,zAJ,Bool.not_false,zAC]
   have ho1:out.length+1≤9223372036854775807:=by omega
   have ho2:(out.length+1)*8≤140737488355328:=by omega
   have hwi:IntKind.wrap .i64 ((i:Int)+1)=((i+1:Nat):Int):=by rw [wI (by omega) (by omega)];omega
   show St (Re3 s0) _ (fun w s'=>Sum.inl ((v1,((i+1:Nat):Int),(([]:List Cst),(0:Int),(0:Int),(0:Int),([]:List Int),([]:List Fld),([]:List Mth)),(vp,vf,vn,vs,out++[w],([]:List Fld),([]:List Mth)),s'))) ((some l).bind g2)
   refine St.last (s222 _ _ hs) fun w0 ⟨a5,b5,gc5⟩=>?_
   simp only [ho1,ho2,decide_true,Bool.and_true,zAG,hwi]
 ·intro out ⟨a,b,c⟩ st' hs
  generalize out=fa
  show Sm _ _ (st'.bind fun l=>(zBi 5 gFld l).bind fun p=>gc8 vp vf vn vs fa p.1 p.2)
  rw [zBK 5 gFld (gc8 vp vf vn vs fa)]
  refine Sm.step (s221 _ _ hs) (k':=fun n l=>if 5<n then none else (gRep gFld n.toNat l).bind fun q=>gc8 vp vf vn vs fa q.1 q.2) fun v2 ⟨a,b,c⟩ st8 h8 e8=>?_
  simp only [zCJ]
  rw [show (if (5:Int)<v2 then (v2,(([]:List Cst),(0:Int),(0:Int),(0:Int),([]:List Int),([]:List Fld),([]:List Mth)),(vp,vf,vn,vs,fa,([]:List Fld),([]:List Mth)),a,b,true) else (v2,(([]:List Cst),(0:Int),(0:Int),(0:Int),([]:List Int),([]:List Fld),([]:List Mth)),(vp,vf,vn,vs,fa,([]:List Fld),([]:List Mth)),a,b,c))=(v2,(([]:List Cst),(0:Int),(0:Int),(0:Int),([]:List Int),([]:List Fld),([]:List Mth)),(vp,vf,vn,vs,fa,([]:List Fld),([]:List Mth)),a,b,if 5<v2 then true else c) by split <;> rfl]
  simp only
  rw [zAz]
  have h9:=h8.cut (5<v2)
  refine Sm.loop (fun out i s=>(v2,(i:Int),(([]:List Cst),(0:Int),(0:Int),(0:Int),([]:List Int),([]:List Fld),([]:List Mth)),(vp,vf,vn,vs,fa,out,([]:List Mth)),s)) (fun out s=>((([]:List Cst),(0:Int),(0:Int),(0:Int),([]:List Int),([]:List Fld),([]:List Mth)),(vp,vf,vn,vs,fa,out,([]:List Mth)),s)) v2.toNat gFld h9 (k':=gc8 vp vf vn vs fa) rfl ?_ ?_ ?_
  ·intro out i ⟨a,b,c⟩ hs
   have:=hs.2.2.2.2.1 rfl
   simp only at this
   subst this
   by_cases hi:(i:Int)<v2 <;> simp only [hi,decide_true,decide_false,zAJ,zAK,Bool.not_true,zAH]
  ·intro l hl
   have hv:=zDl e8 hl
   refine ⟨fun out ⟨a,b,c⟩ l hs=>?_,fun out i ⟨a,b,c⟩ l hi ho hs=>?_⟩
   ·have hi:¬ ((v2.toNat:Int)<v2):=by omega
    simp only [hi,decide_false,zAK,zAH]
   ·have hi':(i:Int)<v2:=by omega
    have hc:=(hs.2.2.2.2.2 l rfl).1
    simp only at hc
    subst hc
    simp only [hi',decide_true,zAJ,Bool.not_false,zAC]
    have ho1:out.length+1≤9223372036854775807:=by omega
    have ho2:(out.length+1)*24≤140737488355328:=by omega
    have hwi:IntKind.wrap .i64 ((i:Int)+1)=((i+1:Nat):Int):=by rw [wI (by omega) (by omega)];omega
    show St (Re3 s0) _ (fun w s'=>Sum.inl ((v2,((i+1:Nat):Int),(([]:List Cst),(0:Int),(0:Int),(0:Int),([]:List Int),([]:List Fld),([]:List Mth)),(vp,vf,vn,vs,fa,out++[w],([]:List Mth)),s'))) ((some l).bind gFld)
    refine St.step (s221 _ _ hs) (k':=fun p l=>(g2 l).bind fun q=>(g2 q.2).bind fun r=>some ((p,q.1,r.1),r.2)) fun w0 ⟨a5,b5,gc5⟩ t0 g0=>?_
    refine St.step (s222 _ _ g0) (k':=fun q l=>(g2 l).bind fun r=>some ((w0,q,r.1),r.2)) fun w1 ⟨a6,b6,gc6⟩ t1 g1=>?_
    refine St.step (s222 _ _ g1) (k':=fun r l=>some ((w0,w1,r),l)) fun w2 ⟨a7,b7,gc7⟩ t2 g2=>?_
    simp only [ho1,ho2,decide_true,Bool.and_true,zAG,hwi]
    exact St.ret (mk:=fun w s'=>Sum.inl ((v2,((i+1:Nat):Int),(([]:List Cst),(0:Int),(0:Int),(0:Int),([]:List Int),([]:List Fld),([]:List Mth)),(vp,vf,vn,vs,fa,out++[w],([]:List Mth)),s'))) g2 _
  ·intro out ⟨a,b,c⟩ st' hs
   generalize out=fi
   show Sm _ _ (st'.bind fun l=>(zBi 6 gMth l).bind fun p=>some ((vp,vf,vn,vs,fa,fi,p.1),p.2))
   rw [zBK 6 gMth fun p l=>some ((vp,vf,vn,vs,fa,fi,p),l)]
   refine Sm.step (s221 _ _ hs) (k':=fun n l=>if 6<n then none else (gRep gMth n.toNat l).bind fun q=>some ((vp,vf,vn,vs,fa,fi,q.1),q.2)) fun v3 ⟨a,b,c⟩ st10 h10 e10=>?_
   simp only [zCJ]
   rw [show (if (6:Int)<v3 then (v3,(([]:List Cst),(0:Int),(0:Int),(0:Int),([]:List Int),([]:List Fld),([]:List Mth)),(vp,vf,vn,vs,fa,fi,([]:List Mth)),a,b,true) else (v3,(([]:List Cst),(0:Int),(0:Int),(0:Int),([]:List Int),([]:List Fld),([]:List Mth)),(vp,vf,vn,vs,fa,fi,([]:List Mth)),a,b,c))=(v3,(([]:List Cst),(0:Int),(0:Int),(0:Int),([]:List Int),([]:List Fld),([]:List Mth)),(vp,vf,vn,vs,fa,fi,([]:List Mth)),a,b,if 6<v3 then true else c) by split <;> rfl]
   simp only
   rw [zAz]
   have h11:=h10.cut (6<v3)
   refine Sm.loop (fun out i s=>(v3,(i:Int),(([]:List Cst),(0:Int),(0:Int),(0:Int),([]:List Int),([]:List Fld),([]:List Mth)),(vp,vf,vn,vs,fa,fi,out),s)) (fun out s=>((([]:List Cst),(0:Int),(0:Int),(0:Int),([]:List Int),([]:List Fld),([]:List Mth)),(vp,vf,vn,vs,fa,fi,out),s)) v3.toNat gMth h11 (k':=fun p l=>some ((vp,vf,vn,vs,fa,fi,p),l)) rfl ?_ ?_ ?_
   ·intro out i ⟨a,b,c⟩ hs
    have:=hs.2.2.2.2.1 rfl
    simp only at this
    subst this
    by_cases hi:(i:Int)<v3 <;> simp only [hi,decide_true,decide_false,zAJ,zAK,Bool.not_true,zAH]
   ·intro l hl
    have hv:=zDl e10 hl
    refine ⟨fun out ⟨a,b,c⟩ l hs=>?_,fun out i ⟨a,b,c⟩ l hi ho hs=>?_⟩
    ·have hi:¬ ((v3.toNat:Int)<v3):=by omega
     simp only [hi,decide_false,zAK,zAH]
    ·have hi':(i:Int)<v3:=by omega
     have hc:=(hs.2.2.2.2.2 l rfl).1
     simp only at hc
     subst hc
     simp only [hi',decide_true,zAJ,Bool.not_false,zAC]
     have ho1:out.length+1≤9223372036854775807:=by omega
     have ho2:(out.length+1)*104≤140737488355328:=by omega
     have hwi:IntKind.wrap .i64 ((i:Int)+1)=((i+1:Nat):Int):=by rw [wI (by omega) (by omega)];omega
     show St (Re3 s0) _ (fun w s'=>Sum.inl ((v3,((i+1:Nat):Int),(([]:List Cst),(0:Int),(0:Int),(0:Int),([]:List Int),([]:List Fld),([]:List Mth)),(vp,vf,vn,vs,fa,fi,out++[w]),s'))) ((some l).bind gMth)
     refine St.last (s223 _ _ hs) fun w0 ⟨a5,b5,gc5⟩=>?_
     simp only [ho1,ho2,decide_true,Bool.and_true,zAG,hwi]
   ·intro out ⟨a,b,c⟩ st' hs
    exact Sm.ret hs _
end Go.Proofs.YtdpapeledldifaaGreat
end
section
namespace Go.TM
open Go.AM
section
variable {σ α β R Y Z:Type}
theorem zEj {γ:Type} (most v:Int) (st:Option (List UInt8)) (M:Int→List UInt8→Option γ):((if most<v then none else st).bind fun l=>M v l)=(if most<v then none else st).bind fun l=>M (if most<v then 0 else v) l:=by
 by_cases h:most<v <;> simp [h]
theorem zGs (most v:Int) {st:Option (List UInt8)} (l:List UInt8) (h:(if most<v then none else st)=some l):(if most<v then 0 else v)=v:=by
 by_cases h':most<v
 ·rw [if_pos h'] at h;cases h
 ·rw [if_neg h']
variable {Re:σ→Option (List UInt8)→Prop}
theorem Gn.step {Φ:Option Z→Option (β×List UInt8)→Prop} {F:Option (α×σ)} {g:List UInt8→Option (α×List UInt8)} {st:Option (List UInt8)} {k:α×σ→Option Z} {k':α→List UInt8→Option (β×List UInt8)}
  (hF:Sm Re F (st.bind g)) (hk:∀ v s' st',Re s' st'→(∀ l',st'=some l'→∃ l,st=some l∧g l=some (v,l'))→Φ (k (v,s')) (st'.bind (k' v))) :
  Φ (zAA F k) (st.bind fun l=>(g l).bind fun p=>k' p.1 p.2):=by
 have e:(st.bind fun l=>(g l).bind fun p=>k' p.1 p.2)=(st.bind g).bind fun p=>k' p.1 p.2:=by cases st <;> rfl
 rw [e]
 obtain ⟨v,s,hr,h1,h2⟩:=hF
 rw [hr,zAB]
 have:=hk v s _ h1 fun l' hl=>by
  cases st with
  | none=>cases hl
  | some l =>
    refine ⟨l,rfl,?_⟩
    cases hg:g l with
    | none=>simp [hg] at hl
    | some p =>
      simp only [Option.bind_some,hg,Option.map_some,Option.some.injEq] at hl
      subst hl
      rw [h2 p.1 p.2 (by simp [hg])]
 cases hm:st.bind g with
 | none=>rw [hm] at this;exact this
 | some p =>
   rw [hm] at this h2
   have e:=h2 p.1 p.2 rfl
   subst e
   exact this
theorem Gn.loop {Φ:Option Z→Option (α×List UInt8)→Prop} {X Y:Type} {f:X→Option (X ⊕ (Y ⊕ Z))} (mk:List β→Nat→σ→X) (fin:List β→σ→Y) (n:Nat) (g:List UInt8→Option (β×List UInt8)) {s:σ} {st:Option (List UInt8)} (h:Re s st)
  {k:Y→Option Z} {k':List β→List UInt8→Option (α×List UInt8)} {x0:X} (hx:x0=mk [] 0 s)
  (hbad:∀ out i s,Re s none→f (mk out i s)=some (.inr (.inl (fin out s))))
  (hg:∀ l,st=some l→(∀ out s l,Re s (some l)→f (mk out n s)=some (.inr (.inl (fin out s)))) ∧
   ∀ out i s l,i<n→out.length=i→Re s (some l)→∃ v s',f (mk out i s)=some (.inl (mk (out++[v]) (i+1) s'))∧Re s' ((g l).map (·.2))∧∀ v' l',g l=some (v',l')→v=v')
  (hk:∀ out s' st',Re s' st'→Φ (k (fin out s')) (st'.bind (k' out))) :
  Φ (bindE (zAF f x0) k) (st.bind fun l=>(gRep g n l).bind fun p=>k' p.1 p.2):=by
 obtain ⟨o,s',q1,q2,q3⟩:=zJA mk (fun out s=>(.inl (fin out s):Y ⊕ Z)) n g s st h hbad hg
 rw [hx,q1,zAC]
 have:=hk o s' _ q2
 have e:(st.bind fun l=>(gRep g n l).bind fun p=>k' p.1 p.2)=(st.bind (gRep g n)).bind fun p=>k' p.1 p.2:=by cases st <;> rfl
 rw [e]
 cases hm:st.bind (gRep g n) with
 | none=>rw [hm] at this;exact this
 | some p =>
   rw [hm] at this
   rw [q3 p.1 p.2 hm] at this ⊢
   exact this
end
end Go.TM
namespace Go.Proofs.YtdpapeledldifaaGreat
open Go Go.AM Go.TM
theorem Re2.cut {a:List UInt8} {t:Bool} {st:Option (List UInt8)} (c:Prop) [Decidable c] (h:Re2 (a,t) st):Re2 (a,if c then true else t) (if c then none else st):=by
 by_cases hc:c
 ·simp only [if_pos hc];exact h.bad
 ·simp only [if_neg hc];exact h
theorem i58 (n most:Int) (a:List UInt8) (c:Bool):F58 (n,most,a,c)=some ((if most<n then 0 else n),a,if most<n then true else c):=by
 simp only [F58,zAE]
 by_cases h:most<n <;> simp [h]
theorem i141 (s:List UInt8×Bool) (st:Option (List UInt8)) (h:Re2 s st):Sm Re2 (F141 s) (st.bind (zBi 8 gKnd)):=by
 obtain ⟨o0,o1⟩:=s
 simp only [F141]
 rw [← zSZ (zBi 8 gKnd),zBK 8 gKnd fun p l=>some (p,l)]
 refine Sm.step (i59 _ st h) (k':=fun n l=>if 8<n then none else (gRep gKnd n.toNat l).bind fun q=>some (q.1,q.2)) fun v ⟨a,c⟩ st1 h1 e1=>?_
 rw [zAz]
 rw [i58 v 8 a c,zAB]
 simp only
 rw [zEj 8 v st1 fun v l=>(gRep gKnd v.toNat l).bind fun q=>some (q.1,q.2)]
 have h2:=h1.cut (8<v)
 have zv':∀ l,(if 8<v then none else st1)=some l→(if 8<v then 0 else v)=v:=fun l=>zGs 8 v l
 generalize (if 8<v then 0 else v)=v' at zv' ⊢
 refine Sm.loop (fun out i s=>(out,v' - (i:Int),s)) (fun out s=>(out,s)) v'.toNat gKnd h2 (k':=fun p l=>some (p,l)) (by simp) ?_ ?_ ?_
 ·intro out i ⟨a,c⟩ hs
  have:=hs.2.1 rfl
  simp only at this
  subst this
  by_cases hi:(0:Int)<v' - (i:Int) <;> simp only [hi,decide_true,decide_false,zAJ,zAK,Bool.not_true,zAH]
 ·intro l hl
  have hv:=zDl e1 hl
  have hz:=zv' l hl
  refine ⟨fun out ⟨a,c⟩ l hs=>?_,fun out i ⟨a,c⟩ l hi ho hs=>?_⟩
  ·have hi:¬ ((0:Int)<v' - (v'.toNat:Int)):=by omega
   simp only [hi,decide_false,zAK,zAH]
  ·have hi':(0:Int)<v' - (i:Int):=by omega
   have hw:IntKind.wrap .i64 (v' - (i:Int) - 1)=v' - ((i+1:Nat):Int):=by rw [wI (by omega) (by omega)];omega
   have hc:=(hs.2.2 l rfl).1
   simp only at hc
   subst hc
   simp only [hi',decide_true,zAJ,Bool.not_false,zAC]
   have hk:Sm Re2 (zAA (F59 (a,false)) fun x=>match x with
     | (y4,y5,y7)=>zAA (F58 (y4,3,y5,y7)) fun x=>match x with
       | (z4,z5,z7)=>cndO (decide (z4=3)) (zAA (F61 (z5,z7)) fun x=>match x with | (y8,y9,y11)=>some ((z4,y8),y9,y11)) (some ((z4,0),z5,z7))) ((some l).bind gKnd):=by
    refine Sm.step (i59 _ _ hs) (k':=fun p l=>if p=3 then (g2 l).bind fun q=>some ((3,q.1),q.2) else if 3<p then none else some ((p,0),l)) fun w ⟨a2,gc2⟩ st2 h2 e2=>?_
    simp only [i58,zAE]
    by_cases hw:w=3
    ·subst hw
     simp only [↓reduceIte,zAB,Int.lt_irrefl]
     exact Sm.step (i61 _ st2 h2) (k':=fun q l=>some ((3,q),l)) fun n ⟨a3,gc3⟩ st3 h3 e3=>Sm.ret h3 _
    ·simp only [hw,↓reduceIte]
     rw [zAz]
     by_cases h3:3<w
     ·simp only [h3,↓reduceIte,zAB,show ¬ ((0:Int)=3) by omega]
      exact ⟨_,_,rfl,h2.bad,fun _ _ h=>by cases h⟩
     ·simp only [h3,hw,↓reduceIte,zAB]
      exact Sm.ret h2 _
   refine hk.one (mk:=fun w s=>(out++[w],v' - ((i+1:Nat):Int),s)) fun w s' hr=>?_
   have ho1:out.length+1≤9223372036854775807:=by omega
   have ho2:(out.length+1)*16≤140737488355328:=by omega
   rcases h221:F59 (a,false) with _ | ⟨y4,y5,y7⟩
   ·rw [h221] at hr;cases hr
   ·rw [h221] at hr
    simp only [zAB] at hr ⊢
    rcases h58:F58 (y4,3,y5,y7) with _ | ⟨z4,z5,z7⟩
    ·rw [h58] at hr;cases hr
    ·rw [h58] at hr
     simp only [zAB,zAE,zAo] at hr ⊢
     by_cases hy:z4=3
     ·subst hy
      simp only [↓reduceIte,zAx] at hr ⊢
      rcases h222:F61 (z5,z7) with _ | ⟨y8,y9,y11⟩
      ·rw [h222] at hr;cases hr
      ·rw [h222] at hr
       simp only [zAB,Option.some.injEq,Prod.mk.injEq] at hr ⊢
       obtain ⟨rfl,rfl⟩:=hr
       simp only [ho1,ho2,decide_true,Bool.and_true,zAG,zAC,hw]
     ·simp only [hy,↓reduceIte] at hr ⊢
      simp only [Option.some.injEq,Prod.mk.injEq] at hr ⊢
      obtain ⟨rfl,rfl⟩:=hr
      simp only [ho1,ho2,decide_true,Bool.and_true,zAG,zAC,hw]
 ·intro out ⟨a,c⟩ st' hs
  exact Sm.ret hs _
theorem zWE (n:Fin 256):(!decide (andI .i64 (n.val:Int) 8=0))=decide (zGQ (n.val:Int)):=by
 revert n;decide +kernel
theorem i62 (s:List UInt8×Bool) (st:Option (List UInt8)) (h:Re2 s st):Sm Re2 (F62 s) (st.bind gMth):=by
 obtain ⟨o0,o1⟩:=s
 simp only [F62]
 refine Sm.step (i59 _ st h) (k':=m1) fun vf ⟨a,c⟩ st1 h1 e1=>?_
 refine Sm.step (i61 _ st1 h1) (k':=m2 vf) fun vn ⟨a,c⟩ st2 h2 e2=>?_
 refine Sm.step (i61 _ st2 h2) (k':=m3 vf vn) fun vd ⟨a,c⟩ st3 h3 e3=>?_
 have hab:∀ l,st3=some l→(!decide (andI .i64 vf 8=0))=decide (zGQ vf):=by
  intro l hl
  obtain ⟨l2,q2,_⟩:=e3 l hl
  obtain ⟨l1,q1,_⟩:=e2 l2 q2
  obtain ⟨_,_,hg⟩:=e1 l1 q1
  have:=zDJ hg
  have:=zWE ⟨vf.toNat,by omega⟩
  simpa [show ((vf.toNat:Nat):Int)=vf by omega] using this
 simp only [F86,zAB]
 cases hy:(!decide (andI .i64 vf 8=0)) with
 | true =>
   rw [hy] at hab
   simp only [zAJ]
   have e:st3.bind (m3 vf vn vd)=st3.bind fun l=>some ((vf,vn,vd,0,0,[],[],[]),l):=by
    cases st3 with
    | none=>rfl
    | some l=>have:=hab l rfl;have:zGQ vf:=by simpa using this.symm
              simp only [Option.bind_some,m3,if_pos this]
   rw [e]
   exact Sm.ret h3 _
 | false =>
 rw [hy] at hab
 simp only [zAK]
 have e:st3.bind (m3 vf vn vd)=st3.bind (zVb vf vn vd):=by
  cases st3 with
  | none=>rfl
  | some l=>have:=hab l rfl;have:¬ zGQ vf:=by simpa using this.symm
            simp only [Option.bind_some,m3,if_neg this]
 rw [e]
 clear hab e
 refine Sm.step (i59 _ st3 h3) (k':=b3 vf vn vd) fun vs ⟨a,c⟩ st1 h1 e1=>?_
 refine Sm.step (i59 _ st1 h1) (k':=b4 vf vn vd vs) fun vl ⟨a,c⟩ st2 h2 e2=>?_
 refine Sm.step (i61 _ st2 h2) (k':=b5 vf vn vd vs vl) fun v ⟨a,c⟩ st3 h3 e3=>?_
 show Sm _ _ (st3.bind fun l=>if 120<v then none else (gT v l).bind fun p=>b6 vf vn vd vs vl p.1 p.2)
 rw [zAz]
 rw [i58 v 120 a c,zAB]
 simp only
 rw [zEj 120 v st3 fun v l=>(gT v l).bind fun p=>b6 vf vn vd vs vl p.1 p.2]
 have h4:=h3.cut (120<v)
 have zv':∀ l,(if 120<v then none else st3)=some l→(if 120<v then 0 else v)=v:=fun l=>zGs 120 v l
 generalize (if 120<v then 0 else v)=v' at zv' ⊢
 refine Sm.step (i57 v' _ _ h4 fun l hl=>?_) (k':=b6 vf vn vd vs vl) fun vc ⟨a,c⟩ st4 h5 e4=>?_
 ·rw [zv' l hl]
  split at hl
  ·cases hl
  ·obtain ⟨_,_,hg⟩:=e3 l hl
   exact (zVc hg).1
 show Sm _ _ (st4.bind fun l=>(zBi 3 gTrp l).bind fun p=>b7 vf vn vd vs vl vc p.1 p.2)
 rw [zBK 3 gTrp (b7 vf vn vd vs vl vc)]
 refine Sm.step (i59 _ st4 h5) (k':=fun n l=>if 3<n then none else (gRep gTrp n.toNat l).bind fun q=>b7 vf vn vd vs vl vc q.1 q.2) fun v2 ⟨a,c⟩ st5 h6 e5=>?_
 rw [zAz]
 rw [i58 v2 3 a c,zAB]
 simp only
 rw [zEj 3 v2 st5 fun v l=>(gRep gTrp v.toNat l).bind fun q=>b7 vf vn vd vs vl vc q.1 q.2]
 have h7:=h6.cut (3<v2)
 have zv2':∀ l,(if 3<v2 then none else st5)=some l→(if 3<v2 then 0 else v2)=v2:=fun l=>zGs 3 v2 l
 generalize (if 3<v2 then 0 else v2)=v2' at zv2' ⊢
 refine Sm.loop (fun out i s=>(v2' - (i:Int),((0:Int),(0:Int),(0:Int),(0:Int),(0:Int),([]:List UInt8),([]:List Trp),([]:List Frm)),(vf,vn,vd,vs,vl,vc,out,([]:List Frm)),s)) (fun out s=>(((0:Int),(0:Int),(0:Int),(0:Int),(0:Int),([]:List UInt8),([]:List Trp),([]:List Frm)),(vf,vn,vd,vs,vl,vc,out,([]:List Frm)),s)) v2'.toNat gTrp h7 (k':=b7 vf vn vd vs vl vc) (by simp) ?_ ?_ ?_
 ·intro out i ⟨a,c⟩ hs
  have:=hs.2.1 rfl
  simp only at this
  subst this
  by_cases hi:(0:Int)<v2' - (i:Int) <;> simp only [hi,decide_true,decide_false,zAJ,zAK,Bool.not_true,zAH]
 ·intro l hl
  have hv:=zDl e5 hl
  have hz:=zv2' l hl
  refine ⟨fun out ⟨a,c⟩ l hs=>?_,fun out i ⟨a,c⟩ l hi ho hs=>?_⟩
  ·have hi:¬ ((0:Int)<v2' - (v2'.toNat:Int)):=by omega
   simp only [hi,decide_false,zAK,zAH]
  ·have hi':(0:Int)<v2' - (i:Int):=by omega
   have hw:IntKind.wrap .i64 (v2' - (i:Int) - 1)=v2' - ((i+1:Nat):Int):=by rw [wI (by omega) (by omega)];omega
   have hc:=(hs.2.2 l rfl).1
   simp only at hc
   subst hc
   simp only [hi',decide_true,zAJ,Bool.not_false,zAC]
   have ho1:out.length+1≤9223372036854775807:=by omega
   have ho2:(out.length+1)*32≤140737488355328:=by omega
   show St Re2 _ (fun w s'=>Sum.inl ((v2' - ((i+1:Nat):Int),((0:Int),(0:Int),(0:Int),(0:Int),(0:Int),([]:List UInt8),([]:List Trp),([]:List Frm)),(vf,vn,vd,vs,vl,vc,out++[w],([]:List Frm)),s'))) ((some l).bind gTrp)
   refine St.step (i61 _ _ hs) (k':=fun p l=>(g2 l).bind fun q=>(g2 q.2).bind fun r=>(g2 r.2).bind fun s=>some ((p,q.1,r.1,s.1),s.2)) fun w0 ⟨a5,gc5⟩ t0 g0=>?_
   refine St.step (i61 _ _ g0) (k':=fun q l=>(g2 l).bind fun r=>(g2 r.2).bind fun s=>some ((w0,q,r.1,s.1),s.2)) fun w1 ⟨a6,gc6⟩ t1 g1=>?_
   refine St.step (i61 _ _ g1) (k':=fun r l=>(g2 l).bind fun s=>some ((w0,w1,r,s.1),s.2)) fun w2 ⟨a7,gc7⟩ t2 g2=>?_
   refine St.step (i61 _ _ g2) (k':=fun s l=>some ((w0,w1,w2,s),l)) fun w3 ⟨a8,gc8⟩ t3 g3=>?_
   simp only [ho1,ho2,decide_true,Bool.and_true,zAG,hw]
   exact St.ret (mk:=fun w s'=>Sum.inl ((v2' - ((i+1:Nat):Int),((0:Int),(0:Int),(0:Int),(0:Int),(0:Int),([]:List UInt8),([]:List Trp),([]:List Frm)),(vf,vn,vd,vs,vl,vc,out++[w],([]:List Frm)),s'))) g3 _
 ·intro out ⟨a,c⟩ st' hs
  generalize out=tr
  show Sm _ _ (st'.bind fun l=>(zBi 8 gFrm l).bind fun p=>some ((vf,vn,vd,vs,vl,vc,tr,p.1),p.2))
  rw [zBK 8 gFrm fun p l=>some ((vf,vn,vd,vs,vl,vc,tr,p),l)]
  refine Sm.step (i59 _ _ hs) (k':=fun n l=>if 8<n then none else (gRep gFrm n.toNat l).bind fun q=>some ((vf,vn,vd,vs,vl,vc,tr,q.1),q.2)) fun v3 ⟨a,c⟩ st6 h8 e6=>?_
  rw [zAz]
  rw [i58 v3 8 a c,zAB]
  simp only
  rw [zEj 8 v3 st6 fun v l=>(gRep gFrm v.toNat l).bind fun q=>some ((vf,vn,vd,vs,vl,vc,tr,q.1),q.2)]
  have h9:=h8.cut (8<v3)
  have zv3':∀ l,(if 8<v3 then none else st6)=some l→(if 8<v3 then 0 else v3)=v3:=fun l=>zGs 8 v3 l
  generalize (if 8<v3 then 0 else v3)=v3' at zv3' ⊢
  refine Sm.loop (fun out i s=>(v3' - (i:Int),((0:Int),(0:Int),(0:Int),(0:Int),(0:Int),([]:List UInt8),([]:List Trp),([]:List Frm)),(vf,vn,vd,vs,vl,vc,tr,out),s)) (fun out s=>(((0:Int),(0:Int),(0:Int),(0:Int),(0:Int),([]:List UInt8),([]:List Trp),([]:List Frm)),(vf,vn,vd,vs,vl,vc,tr,out),s)) v3'.toNat gFrm h9 (k':=fun p l=>some ((vf,vn,vd,vs,vl,vc,tr,p),l)) (by simp) ?_ ?_ ?_
  ·intro out i ⟨a,c⟩ hs
   have:=hs.2.1 rfl
   simp only at this
   subst this
   by_cases hi:(0:Int)<v3' - (i:Int) <;> simp only [hi,decide_true,decide_false,zAJ,zAK,Bool.not_true,zAH]
  ·intro l hl
   have hv:=zDl e6 hl
   have hz:=zv3' l hl
   refine ⟨fun out ⟨a,c⟩ l hs=>?_,fun out i ⟨a,c⟩ l hi ho hs=>?_⟩
   ·have hi:¬ ((0:Int)<v3' - (v3'.toNat:Int)):=by omega
    simp only [hi,decide_false,zAK,zAH]
   ·have hi':(0:Int)<v3' - (i:Int):=by omega
    have hw:IntKind.wrap .i64 (v3' - (i:Int) - 1)=v3' - ((i+1:Nat):Int):=by rw [wI (by omega) (by omega)];omega
    have hc:=(hs.2.2 l rfl).1
    simp only at hc
    subst hc
    simp only [hi',decide_true,zAJ,Bool.not_false,zAC]
    have ho1:out.length+1≤9223372036854775807:=by omega
    have ho2:(out.length+1)*56≤140737488355328:=by omega
    show St Re2 _ (fun w s'=>Sum.inl ((v3' - ((i+1:Nat):Int),((0:Int),(0:Int),(0:Int),(0:Int),(0:Int),([]:List UInt8),([]:List Trp),([]:List Frm)),(vf,vn,vd,vs,vl,vc,tr,out++[w]),s'))) ((some l).bind gFrm)
    refine St.step (i61 _ _ hs) (k':=fun p l=>(zBi 8 gKnd l).bind fun q=>(zBi 8 gKnd q.2).bind fun r=>some ((p,q.1,r.1),r.2)) fun w0 ⟨a5,gc5⟩ t0 g0=>?_
    refine St.step (i141 _ _ g0) (k':=fun q l=>(zBi 8 gKnd l).bind fun r=>some ((w0,q,r.1),r.2)) fun w1 ⟨a6,gc6⟩ t1 g1=>?_
    refine St.step (i141 _ _ g1) (k':=fun r l=>some ((w0,w1,r),l)) fun w2 ⟨a7,gc7⟩ t2 g2=>?_
    simp only [ho1,ho2,decide_true,Bool.and_true,zAG,hw]
    exact St.ret (mk:=fun w s'=>Sum.inl ((v3' - ((i+1:Nat):Int),((0:Int),(0:Int),(0:Int),(0:Int),(0:Int),([]:List UInt8),([]:List Trp),([]:List Frm)),(vf,vn,vd,vs,vl,vc,tr,out++[w]),s'))) g2 _
  ·intro out ⟨a,c⟩ st' hs
   exact Sm.ret hs _
def zED (q:Option (Bool×Cls)) (m:Option (Cls×List UInt8)):Prop:=q=some (match m with
 | some (c,[])=>(true,c)
 | _=>(false,(([]:List Cst),(0:Int),(0:Int),(0:Int),([]:List Int),([]:List Fld),([]:List Mth))))
theorem i17 (l:List UInt8) (hl:l.length≤900):zED (F17 l) (gCls l):=by
 have h:Re2 (l,false) (some l):=⟨hl,(fun h=>by cases h),fun l' h=>⟨rfl,by simp only [Option.some.injEq] at h;exact h.symm⟩⟩
 have hn:¬ (900:Int)<(l.length:Int):=by omega
 simp only [F17,hn,decide_false,zAK]
 show zED _ ((some l).bind gCls)
 refine Gn.step (Φ:=zED) (i57 4 _ _ h fun _ _=>by omega) (k':=gc1) fun vt ⟨a,c⟩ st1 h1 e1=>?_
 simp only
 rw [zAS,zAE]
 by_cases hvt:vt=[83,84,79,87]
 ·rw [if_pos hvt]
  have e:gc1 vt=gc2:=by funext l;simp only [gc1,hvt,not_true,if_false]
  rw [e]
  show zED _ (st1.bind fun l=>(zBi 60 zCm l).bind fun p=>gc3 p.1 p.2)
  rw [zBK 60 zCm gc3]
  refine Gn.step (Φ:=zED) (i59 _ st1 h1) (k':=fun n l=>if 60<n then none else (gRep zCm n.toNat l).bind fun q=>gc3 q.1 q.2) fun v0 ⟨a,c⟩ st2 h2 e2=>?_
  rw [zAz]
  rw [i58 v0 60 a c,zAB]
  simp only
  rw [zEj 60 v0 st2 fun v l=>(gRep zCm v.toNat l).bind fun q=>gc3 q.1 q.2]
  have h3:=h2.cut (60<v0)
  have zv0':∀ l,(if 60<v0 then none else st2)=some l→(if 60<v0 then 0 else v0)=v0:=fun l=>zGs 60 v0 l
  generalize (if 60<v0 then 0 else v0)=v0' at zv0' ⊢
  refine Gn.loop (Φ:=zED) (fun out i s=>(v0' - (i:Int),(([]:List Cst),(0:Int),(0:Int),(0:Int),([]:List Int),([]:List Fld),([]:List Mth)),(out,(0:Int),(0:Int),(0:Int),([]:List Int),([]:List Fld),([]:List Mth)),s)) (fun out s=>((([]:List Cst),(0:Int),(0:Int),(0:Int),([]:List Int),([]:List Fld),([]:List Mth)),(out,(0:Int),(0:Int),(0:Int),([]:List Int),([]:List Fld),([]:List Mth)),s)) v0'.toNat zCm h3 (k':=gc3) (by simp) ?_ ?_ ?_
  ·intro out i ⟨a,c⟩ hs
   have:=hs.2.1 rfl
   simp only at this
   subst this
   by_cases hi:(0:Int)<v0' - (i:Int) <;> simp only [hi,decide_true,decide_false,zAJ,zAK,Bool.not_true,zAH]
  ·intro l hl
   have hv:=zDl e2 hl
   have hz:=zv0' l hl
   refine ⟨fun out ⟨a,c⟩ l hs=>?_,fun out i ⟨a,c⟩ l hi ho hs=>?_⟩
   ·have hi:¬ ((0:Int)<v0' - (v0'.toNat:Int)):=by omega
    simp only [hi,decide_false,zAK,zAH]
   ·have hi':(0:Int)<v0' - (i:Int):=by omega
    have hw:IntKind.wrap .i64 (v0' - (i:Int) - 1)=v0' - ((i+1:Nat):Int):=by rw [wI (by omega) (by omega)];omega
    have hc:=(hs.2.2 l rfl).1
    simp only at hc
    subst hc
    simp only [hi',decide_true,zAJ,Bool.not_false,zAC]
    have ho1:out.length+1≤9223372036854775807:=by omega
    have ho2:(out.length+1)*40≤140737488355328:=by omega
    show St Re2 _ (fun w s'=>Sum.inl ((v0' - ((i+1:Nat):Int),(([]:List Cst),(0:Int),(0:Int),(0:Int),([]:List Int),([]:List Fld),([]:List Mth)),(out++[w],(0:Int),(0:Int),(0:Int),([]:List Int),([]:List Fld),([]:List Mth)),s'))) ((some l).bind zCm)
    refine St.last (i60 _ _ hs) fun w0 ⟨a5,gc5⟩=>?_
    simp only [ho1,ho2,decide_true,Bool.and_true,zAG,hw]
  ·intro out ⟨a,c⟩ st' hs
   generalize out=vp
   refine Gn.step (Φ:=zED) (i59 _ _ hs) (k':=gc4 vp) fun vf ⟨a,c⟩ st3 h4 e3=>?_
   refine Gn.step (Φ:=zED) (i61 _ _ h4) (k':=gc5 vp vf) fun vn ⟨a,c⟩ st4 h5 e4=>?_
   refine Gn.step (Φ:=zED) (i61 _ _ h5) (k':=gc6' vp vf vn) fun vs ⟨a,c⟩ st5 h6 e5=>?_
   show zED _ (st5.bind fun l=>(zBi 3 g2 l).bind fun p=>gc7 vp vf vn vs p.1 p.2)
   rw [zBK 3 g2 (gc7 vp vf vn vs)]
   refine Gn.step (Φ:=zED) (i59 _ _ h6) (k':=fun n l=>if 3<n then none else (gRep g2 n.toNat l).bind fun q=>gc7 vp vf vn vs q.1 q.2) fun v1 ⟨a,c⟩ st6 h7 e6=>?_
   rw [zAz]
   rw [i58 v1 3 a c,zAB]
   simp only
   rw [zEj 3 v1 st6 fun v l=>(gRep g2 v.toNat l).bind fun q=>gc7 vp vf vn vs q.1 q.2]
   have h8:=h7.cut (3<v1)
   have zv1':∀ l,(if 3<v1 then none else st6)=some l→(if 3<v1 then 0 else v1)=v1:=fun l=>zGs 3 v1 l
   generalize (if 3<v1 then 0 else v1)=v1' at zv1' ⊢
   refine Gn.loop (Φ:=zED) (fun out i s=>(v1' - (i:Int),(([]:List Cst),(0:Int),(0:Int),(0:Int),([]:List Int),([]:List Fld),([]:List Mth)),(vp,vf,vn,vs,out,([]:List Fld),([]:List Mth)),s)) (fun out s=>((([]:List Cst),(0:Int),(0:Int),(0:Int),([]:List Int),([]:List Fld),([]:List Mth)),(vp,vf,vn,vs,out,([]:List Fld),([]:List Mth)),s)) v1'.toNat g2 h8 (k':=gc7 vp vf vn vs) (by simp) ?_ ?_ ?_
   ·intro out i ⟨a,c⟩ hs
    have:=hs.2.1 rfl
    simp only at this
    subst this
    by_cases hi:(0:Int)<v1' - (i:Int) <;> simp only [hi,decide_true,decide_false,zAJ,zAK,Bool.not_true,zAH]
   ·intro l hl
    have hv:=zDl e6 hl
    have hz:=zv1' l hl
    refine ⟨fun out ⟨a,c⟩ l hs=>?_,fun out i ⟨a,c⟩ l hi ho hs=>?_⟩
    ·have hi:¬ ((0:Int)<v1' - (v1'.toNat:Int)):=by omega
     simp only [hi,decide_false,zAK,zAH]
    ·have hi':(0:Int)<v1' - (i:Int):=by omega
     have hw:IntKind.wrap .i64 (v1' - (i:Int) - 1)=v1' - ((i+1:Nat):Int):=by rw [wI (by omega) (by omega)];omega
     have hc:=(hs.2.2 l rfl).1
     simp only at hc
     subst hc
     simp only [hi',decide_true,zAJ,Bool.not_false,zAC]
     have ho1:out.length+1≤9223372036854775807:=by omega
     have ho2:(out.length+1)*8≤140737488355328:=by omega
     show St Re2 _ (fun w s'=>Sum.inl ((v1' - ((i+1:Nat):Int),(([]:List Cst),(0:Int),(0:Int),(0:Int),([]:List Int),([]:List Fld),([]:List Mth)),(vp,vf,vn,vs,out++[w],([]:List Fld),([]:List Mth)),s'))) ((some l).bind g2)
     refine St.last (i61 _ _ hs) fun w0 ⟨a5,gc5⟩=>?_
     simp only [ho1,ho2,decide_true,Bool.and_true,zAG,hw]
   ·intro out ⟨a,c⟩ st' hs
    generalize out=fa
    show zED _ (st'.bind fun l=>(zBi 5 gFld l).bind fun p=>gc8 vp vf vn vs fa p.1 p.2)
    rw [zBK 5 gFld (gc8 vp vf vn vs fa)]
    refine Gn.step (Φ:=zED) (i59 _ _ hs) (k':=fun n l=>if 5<n then none else (gRep gFld n.toNat l).bind fun q=>gc8 vp vf vn vs fa q.1 q.2) fun v2 ⟨a,c⟩ st8 h9 e8=>?_
    rw [zAz]
    rw [i58 v2 5 a c,zAB]
    simp only
    rw [zEj 5 v2 st8 fun v l=>(gRep gFld v.toNat l).bind fun q=>gc8 vp vf vn vs fa q.1 q.2]
    have h10:=h9.cut (5<v2)
    have zv2':∀ l,(if 5<v2 then none else st8)=some l→(if 5<v2 then 0 else v2)=v2:=fun l=>zGs 5 v2 l
    generalize (if 5<v2 then 0 else v2)=v2' at zv2' ⊢
    refine Gn.loop (Φ:=zED) (fun out i s=>(v2' - (i:Int),(([]:List Cst),(0:Int),(0:Int),(0:Int),([]:List Int),([]:List Fld),([]:List Mth)),(vp,vf,vn,vs,fa,out,([]:List Mth)),s)) (fun out s=>((([]:List Cst),(0:Int),(0:Int),(0:Int),([]:List Int),([]:List Fld),([]:List Mth)),(vp,vf,vn,vs,fa,out,([]:List Mth)),s)) v2'.toNat gFld h10 (k':=gc8 vp vf vn vs fa) (by simp) ?_ ?_ ?_
    ·intro out i ⟨a,c⟩ hs
     have:=hs.2.1 rfl
     simp only at this
     subst this
     by_cases hi:(0:Int)<v2' - (i:Int) <;> simp only [hi,decide_true,decide_false,zAJ,zAK,Bool.not_true,zAH]
    ·intro l hl
     have hv:=zDl e8 hl
     have hz:=zv2' l hl
     refine ⟨fun out ⟨a,c⟩ l hs=>?_,fun out i ⟨a,c⟩ l hi ho hs=>?_⟩
     ·have hi:¬ ((0:Int)<v2' - (v2'.toNat:Int)):=by omega
      simp only [hi,decide_false,zAK,zAH]
     ·have hi':(0:Int)<v2' - (i:Int):=by omega
      have hw:IntKind.wrap .i64 (v2' - (i:Int) - 1)=v2' - ((i+1:Nat):Int):=by rw [wI (by omega) (by omega)];omega
      have hc:=(hs.2.2 l rfl).1
      simp only at hc
      subst hc
      simp only [hi',decide_true,zAJ,Bool.not_false,zAC]
      have ho1:out.length+1≤9223372036854775807:=by omega
      have ho2:(out.length+1)*24≤140737488355328:=by omega
      show St Re2 _ (fun w s'=>Sum.inl ((v2' - ((i+1:Nat):Int),(([]:List Cst),(0:Int),(0:Int),(0:Int),([]:List Int),([]:List Fld),([]:List Mth)),(vp,vf,vn,vs,fa,out++[w],([]:List Mth)),s'))) ((some l).bind gFld)
      refine St.step (i59 _ _ hs) (k':=fun p l=>(g2 l).bind fun q=>(g2 q.2).bind fun r=>some ((p,q.1,r.1),r.2)) fun w0 ⟨a5,gc5⟩ t0 g0=>?_
      refine St.step (i61 _ _ g0) (k':=fun q l=>(g2 l).bind fun r=>some ((w0,q,r.1),r.2)) fun w1 ⟨a6,gc6⟩ t1 g1=>?_
      refine St.step (i61 _ _ g1) (k':=fun r l=>some ((w0,w1,r),l)) fun w2 ⟨a7,gc7⟩ t2 g2=>?_
      simp only [ho1,ho2,decide_true,Bool.and_true,zAG,hw]
      exact St.ret (mk:=fun w s'=>Sum.inl ((v2' - ((i+1:Nat):Int),(([]:List Cst),(0:Int),(0:Int),(0:Int),([]:List Int),([]:List Fld),([]:List Mth)),(vp,vf,vn,vs,fa,out++[w],([]:List Mth)),s'))) g2 _
    ·intro out ⟨a,c⟩ st' hs
     generalize out=fi
     show zED _ (st'.bind fun l=>(zBi 6 gMth l).bind fun p=>some ((vp,vf,vn,vs,fa,fi,p.1),p.2))
     rw [zBK 6 gMth fun p l=>some ((vp,vf,vn,vs,fa,fi,p),l)]
     refine Gn.step (Φ:=zED) (i59 _ _ hs) (k':=fun n l=>if 6<n then none else (gRep gMth n.toNat l).bind fun q=>some ((vp,vf,vn,vs,fa,fi,q.1),q.2)) fun v3 ⟨a,c⟩ st9 h11 e9=>?_
     rw [zAz]
     rw [i58 v3 6 a c,zAB]
     simp only
     rw [zEj 6 v3 st9 fun v l=>(gRep gMth v.toNat l).bind fun q=>some ((vp,vf,vn,vs,fa,fi,q.1),q.2)]
     have h12:=h11.cut (6<v3)
     have zv3':∀ l,(if 6<v3 then none else st9)=some l→(if 6<v3 then 0 else v3)=v3:=fun l=>zGs 6 v3 l
     generalize (if 6<v3 then 0 else v3)=v3' at zv3' ⊢
     refine Gn.loop (Φ:=zED) (fun out i s=>(v3' - (i:Int),(([]:List Cst),(0:Int),(0:Int),(0:Int),([]:List Int),([]:List Fld),([]:List Mth)),(vp,vf,vn,vs,fa,fi,out),s)) (fun out s=>((([]:List Cst),(0:Int),(0:Int),(0:Int),([]:List Int),([]:List Fld),([]:List Mth)),(vp,vf,vn,vs,fa,fi,out),s)) v3'.toNat gMth h12 (k':=fun p l=>some ((vp,vf,vn,vs,fa,fi,p),l)) (by simp) ?_ ?_ ?_
     ·intro out i ⟨a,c⟩ hs
      have:=hs.2.1 rfl
      simp only at this
      subst this
      by_cases hi:(0:Int)<v3' - (i:Int) <;> simp only [hi,decide_true,decide_false,zAJ,zAK,Bool.not_true,zAH]
     ·intro l hl
      have hv:=zDl e9 hl
      have hz:=zv3' l hl
      refine ⟨fun out ⟨a,c⟩ l hs=>?_,fun out i ⟨a,c⟩ l hi ho hs=>?_⟩
      ·have hi:¬ ((0:Int)<v3' - (v3'.toNat:Int)):=by omega
       simp only [hi,decide_false,zAK,zAH]
      ·have hi':(0:Int)<v3' - (i:Int):=by omega
       have hw:IntKind.wrap .i64 (v3' - (i:Int) - 1)=v3' - ((i+1:Nat):Int):=by rw [wI (by omega) (by omega)];omega
       have hc:=(hs.2.2 l rfl).1
       simp only at hc
       subst hc
       simp only [hi',decide_true,zAJ,Bool.not_false,zAC]
       have ho1:out.length+1≤9223372036854775807:=by omega
       have ho2:(out.length+1)*104≤140737488355328:=by omega
       show St Re2 _ (fun w s'=>Sum.inl ((v3' - ((i+1:Nat):Int),(([]:List Cst),(0:Int),(0:Int),(0:Int),([]:List Int),([]:List Fld),([]:List Mth)),(vp,vf,vn,vs,fa,fi,out++[w]),s'))) ((some l).bind gMth)
       refine St.last (i62 _ _ hs) fun w0 ⟨a5,gc5⟩=>?_
       simp only [ho1,ho2,decide_true,Bool.and_true,zAG,hw]
     ·intro out ⟨a,c⟩ st' hs
      cases st' with
      | none =>
        have:=hs.2.1 rfl
        simp only at this
        subst this
        rfl
      | some l' =>
        obtain ⟨hc,rfl⟩:=hs.2.2 l' rfl
        simp only at hc
        subst hc
        simp only [zAK,zAS,zAE,Option.bind_some]
        by_cases hr:l'=[]
        ·subst hr;rfl
        ·rw [if_neg hr]
         cases l' with
         | nil=>exact absurd rfl hr
         | cons x y=>rfl
 ·rw [if_neg hvt]
  have e:st1.bind (gc1 vt)=none:=by cases st1 <;> simp [gc1,hvt]
  rw [e]
  rfl
end Go.Proofs.YtdpapeledldifaaGreat
end
section
namespace Go.TM
open Go.AM
section
variable {α X Y:Type}
theorem zMY {f:X→Option (X ⊕ Y)} (mk:List UInt8→Nat→X) (fin:List UInt8→Y) (l:List α) (p:α→List UInt8) (K:Nat) (hK:∀ x∈l,(p x).length≤K)
  (b:Nat) (hend:∀ out,f (mk out l.length)=some (.inr (fin out)))
  (hstep:∀ out i (h:i<l.length),out.length≤b+i*K→f (mk out i)=some (.inl (mk (out++p l[i]) (i+1)))) :
  ∀ (out:List UInt8),out.length≤b→zAF f (mk out 0)=some (fin (out++(l.map p).flatten))∧(out++(l.map p).flatten).length≤b+l.length*K:=by
 have key:∀ (m i:Nat) (out:List UInt8),i+m=l.length→out.length≤b+i*K→zAF f (mk out i)=some (fin (out++((l.drop i).map p).flatten))∧(out++((l.drop i).map p).flatten).length≤b+l.length*K:=by
  intro m
  induction m with
  | zero =>
    intro i out hi ho
    have:i=l.length:=by omega
    subst this
    rw [zAk,hend,List.drop_eq_nil_of_le (Nat.le_refl _)]
    exact ⟨by simp,by simpa using ho⟩
  | succ m ih =>
    intro i out hi ho
    have h:i<l.length:=by omega
    rw [zAk,hstep out i h ho]
    have hk:=hK l[i] (List.getElem_mem h)
    have e:(i+1)*K=i*K+K:=by rw [Nat.add_mul];omega
    have:=ih (i+1) (out++p l[i]) (by omega) (by rw [List.length_append,e];omega)
    rw [zBT h,List.map_cons,List.flatten_cons,← List.append_assoc]
    exact this
 intro out ho
 have:=key l.length 0 out (by omega) (by omega)
 simpa using this
theorem zBr {R:Type} {f:X→Option (X ⊕ (Y ⊕ R))} (mk:List UInt8→Nat→X) (fin:List UInt8→Y) (l:List α) (p:α→List UInt8) (K:Nat) (hK:∀ x∈l,(p x).length≤K)
  (b:Nat) {out:List UInt8} {k:Y→Option R} {x0:X} {r:Option R} (hx:x0=mk out 0) (ho:out.length≤b) (hend:∀ out,f (mk out l.length)=some (.inr (.inl (fin out))))
  (hstep:∀ out i (h:i<l.length),out.length≤b+i*K→f (mk out i)=some (.inl (mk (out++p l[i]) (i+1))))
  (hk:(out++(l.map p).flatten).length≤b+l.length*K→k (fin (out++(l.map p).flatten))=r):bindE (zAF f x0) k=r:=by
 obtain ⟨h1,h2⟩:=zMY mk (fun out=>(.inl (fin out):Y ⊕ R)) l p K hK b hend hstep out ho
 rw [hx,h1,zAC]
 exact hk h2
theorem zMu (l:List α) (p:α→List UInt8) (K:Nat) (hK:∀ x∈l,(p x).length≤K):((l.map p).flatten).length≤l.length*K:=by
 induction l with
 | nil=>simp
 | cons x l ih =>
   have:=ih fun x hx=>hK x (by simp [hx])
   have:=hK x (by simp)
   simp only [List.map_cons,List.flatten_cons,List.length_append,List.length_cons,Nat.add_mul]
   omega
end
end Go.TM
namespace Go.Proofs.YtdpapeledldifaaGreat
open Go Go.AM Go.TM
def w1 (n:Int):List UInt8:=[UInt8.ofNat (IntKind.wrap .u8 n).toNat]
def tS (n:Int):List UInt8:=w1 (IntKind.wrap .i64 (Int.tdiv n 256))++w1 (Int.tmod n 256)
def tI (n:Int):List UInt8:=w1 (Int.fdiv n 256)++w1 n
theorem wrap8 (n:Int):0≤IntKind.wrap .u8 n∧IntKind.wrap .u8 n≤255:=by
 have h:IntKind.wrap .u8 n=n % 256:=by
  simp [IntKind.wrap,IntKind.bits,IntKind.signed]
 rw [h];omega
@[simp] theorem zAY (n:Int):(w1 n).length=1:=by unfold w1;simp
@[simp] theorem zBD (n:Int):(tS n).length=2:=by unfold tS;simp
@[simp] theorem zBA (n:Int):(tI n).length=2:=by unfold tI;simp
theorem p134 (n:Int):F134 n=some (w1 n):=by
 have:=wrap8 n
 simp only [F134]
 rw [zCs,zAW this.1,zAW this.2];rfl
theorem p144 (n:Int):F144 n=some (w1 n):=p134 n
theorem p136 (n:Int):F136 n=some (tS n):=by
 have h1:=wrap8 (IntKind.wrap .i64 (Int.tdiv n 256))
 have h2:=wrap8 (Int.tmod n 256)
 simp only [F136]
 rw [zCs,zAW h1.1,zAW h1.2,zCs,zAW h2.1,zAW h2.2];rfl
theorem p145 (n:Int):F145 n=some (tI n):=by
 simp only [F145,p144,zAB]
 rw [zAW (by simp)];rfl
def pEnt (two:Int→List UInt8) (c:Cst):List UInt8:=w1 c.1++if c.1=1 then w1 c.2.1.length++c.2.1 else if c.1=2 then two c.2.2.1 else two c.2.2.1++two c.2.2.2
def pKnd (two:Int→List UInt8) (k:Knd):List UInt8:=w1 k.1++if k.1=3 then two k.2 else []
def zMc (two:Int→List UInt8) (l:List Knd):List UInt8:=w1 l.length++(l.map (pKnd two)).flatten
def pTrp (two:Int→List UInt8) (t:Trp):List UInt8:=two t.1++(two t.2.1++(two t.2.2.1++two t.2.2.2))
def pFrm (two:Int→List UInt8) (t:Frm):List UInt8:=two t.1++(zMc two t.2.1++zMc two t.2.2)
def pFld (two:Int→List UInt8) (t:Fld):List UInt8:=w1 t.1++(two t.2.1++two t.2.2)
def pMth (two:Int→List UInt8) (ab:Int→Bool) (m:Mth):List UInt8:=w1 m.1++(two m.2.1++(two m.2.2.1++if ab m.1=true then [] else
 w1 m.2.2.2.1++(w1 m.2.2.2.2.1++(two m.2.2.2.2.2.1.length++(m.2.2.2.2.2.1++(w1 m.2.2.2.2.2.2.1.length++((m.2.2.2.2.2.2.1.map (pTrp two)).flatten++(w1 m.2.2.2.2.2.2.2.length++(m.2.2.2.2.2.2.2.map (pFrm two)).flatten))))))))
def pCls (two:Int→List UInt8) (ab:Int→Bool) (c:Cls):List UInt8:=[83,84,79,87]++(w1 c.1.length++((c.1.map (pEnt two)).flatten++(w1 c.2.1++(two c.2.2.1++(two c.2.2.2.1++(w1 c.2.2.2.2.1.length++((c.2.2.2.2.1.map two).flatten ++
 (w1 c.2.2.2.2.2.1.length++((c.2.2.2.2.2.1.map (pFld two)).flatten++(w1 c.2.2.2.2.2.2.length++(c.2.2.2.2.2.2.map (pMth two ab)).flatten))))))))))
theorem p135 (c:Cst) (h:bCst c):F135 c=some (pEnt tS c):=by
 obtain ⟨c0,c1,c2,c3⟩:=c
 simp only [bCst] at h
 simp only [F135,p134,p136,zAB,zAE,decide_true,zAG,zAV,List.length_append,zAY,zBD,pEnt]
 by_cases h1:c0=1
 ·simp (discharger:=omega) only [h1,if_true,zAW,List.append_assoc]
 ·by_cases h2:c0=2
  ·subst h2
   simp (discharger:=omega) only [Int.reduceEq,↓reduceIte,zAW,zAV,List.append_assoc]
  ·simp (discharger:=omega) only [h1,h2,if_true,if_false,zAW,zAV,List.append_assoc]
theorem p216 (l:List Knd) (h:zGX l):F216 l=some (zMc tS l):=by
 simp only [zGX] at h
 simp only [F216,p134,p136,zAB]
 refine (congrArg (bindE · _) (zMY (fun out i=>(l,out,(i:Int))) (fun out=>(Sum.inl out:List UInt8 ⊕ List UInt8)) l (pKnd tS) 3 (fun x _=>by simp only [pKnd];split <;> simp) 1 ?_ ?_ (w1 l.length) (by simp)).1).trans rfl
 ·intro out
  simp only [Int.lt_irrefl,decide_false,zAK]
 ·intro out i hi ho
  have hi':(i:Int)<l.length:=by omega
  have h0:(0:Int)≤i:=by omega
  simp (discharger:=omega) only [hi',h0,decide_true,zAJ,zAG,Int.toNat_natCast,zAL,zAE,zAo]
  by_cases hk:l[i].1=3 <;>
  ·simp (discharger:=omega) only [hk,pKnd,↓reduceIte,zAW,zAY,zBD,List.length_append,zAC,wI,List.append_assoc,List.append_nil]
   rfl
section
variable {two:Int→List UInt8} (h2:∀ n,(two n).length=2)
include h2
theorem zDf (l:List Knd) (h:zGX l):(zMc two l).length≤3145729:=by
 have:=zMu l (pKnd two) 3 fun x _=>by simp only [pKnd];split <;> simp [h2]
 simp only [zGX] at h
 simp only [zMc,List.length_append,zAY]
 omega
theorem zMa (t:Trp):(pTrp two t).length≤8:=by simp [pTrp,h2]
theorem zMd (t:Frm) (h:bFrm t):(pFrm two t).length≤6291460:=by
 have q1:=zDf h2 _ h.1
 have q2:=zDf h2 _ h.2
 simp only [pFrm,List.length_append,h2]
 omega
theorem zMe (c:Cst) (h:bCst c):(pEnt two c).length≤1048586:=by
 simp only [bCst] at h
 unfold pEnt
 split
 ·simp only [List.length_append,zAY];omega
 ·split <;> simp [h2]
theorem zMb (ab:Int→Bool) (m:Mth) (h:bMth m):(pMth two ab m).length≤8796093022208:=by
 obtain ⟨a1,a2,a3,a4⟩:=h
 have q1:=zMu m.2.2.2.2.2.2.1 (pTrp two) 8 fun x _=>zMa h2 x
 have q2:=zMu m.2.2.2.2.2.2.2 (pFrm two) 6291460 fun x hx=>zMd h2 x (a4 x hx)
 unfold pMth
 split
 ·simp [h2]
 ·simp only [List.length_append,zAY,h2]
  omega
end
def abS (f:Int):Bool:=decide (IntKind.wrap .i64 (Int.tdiv (Int.tmod f 16) 8)=1)
def abI (f:Int):Bool:=!decide (andI .i64 f 8=0)
theorem p137 (m:Mth) (h:bMth m):F137 m=some (pMth tS abS m):=by
 obtain ⟨m0,m1,m2,m3,m4,m5,m6,m7⟩:=m
 obtain ⟨a1,a2,a3,a4⟩:=h
 simp only at a1 a2 a3 a4
 simp (discharger:=omega) only [F137,p134,p136,zAB,decide_true,zAG,zAV,List.length_append,zAY,zBD,zAW,Bool.and_true,zAE]
 by_cases hab:IntKind.wrap .i64 (Int.tdiv (Int.tmod m0 16) 8)=1
 ·simp only [hab,pMth,abS,decide_true,if_true,List.append_assoc,List.append_nil]
 ·simp only [hab,if_false]
  refine zBr (fun out i=>(out,(i:Int),m0,m1,m2,m3,m4,m5,m6,m7)) (fun out=>(out,m0,m1,m2,m3,m4,m5,m6,m7)) m6 (pTrp tS) 8 (fun x _=>zMa zBD x) 1048600 rfl (by simp only [List.length_append,zAY,zBD];omega) ?_ ?_ ?_
  ·intro out
   simp only [Int.lt_irrefl,decide_false,zAK,if_false]
  ·intro out i hi ho
   have hi':(i:Int)<m6.length:=by omega
   have h0:(0:Int)≤i:=by omega
   simp (discharger:=omega) only [hi',h0,decide_true,zAJ,if_true,zAG,Int.toNat_natCast,zAL,zAB,zAV,zAW,zAY,zBD,List.length_append,wI,pTrp,List.append_assoc]
   rfl
  ·intro hl
   simp only [List.length_append,zAY,zBD] at hl
   simp (discharger:=omega) only [zAB,zAW,List.length_append,zAY,zBD]
   refine zBr (fun out i=>(out,(i:Int),m0,m1,m2,m3,m4,m5,m6,m7)) (fun out=>out) m7 (pFrm tS) 6291460 (fun x hx=>zMd zBD x (a4 x hx)) 10000000 rfl (by simp only [List.length_append,zAY,zBD];omega) ?_ ?_ ?_
   ·intro out
    simp only [Int.lt_irrefl,decide_false,zAK,if_false]
   ·intro out i hi ho
    have hi':(i:Int)<m7.length:=by omega
    have h0:(0:Int)≤i:=by omega
    have hb:=a4 _ (List.getElem_mem hi)
    have q1:=p216 _ hb.1
    have q2:=p216 _ hb.2
    have l1:=zDf zBD _ hb.1
    have l2:=zDf zBD _ hb.2
    simp (discharger:=omega) only [hi',h0,decide_true,zAJ,if_true,zAG,Int.toNat_natCast,zAL,q1,q2,zAB,zAV,zAW,zAY,zBD,List.length_append,wI,pFrm,List.append_assoc]
    rfl
   ·intro _
    simp only [pMth,abS,hab,decide_false,Bool.false_eq_true,if_false,List.append_assoc]
end Go.Proofs.YtdpapeledldifaaGreat
end
