/- Part 33 of the proof that the law FnCheck holds of every input; no condition. -/
import Derived.Test.YtdpapeledldifaaGreatX31
set_option autoImplicit true
set_option relaxedAutoImplicit true
set_option linter.all false
section
namespace Go.Proofs.YtdpapeledldifaaGreat
open Go Go.AM Go.TM
def few (c:Cls):Prop:=c.1.length≤60∧c.2.2.2.2.1.length≤3∧c.2.2.2.2.2.1.length≤5∧c.2.2.2.2.2.2.length≤6
instance (c:Cls):Decidable (few c):=inferInstanceAs (Decidable (_∧_∧_∧_))
theorem zSd {two:Int→List UInt8} (h2:∀ n,(two n).length=2) (t:Fld):(pFld two t).length≤5:=by simp [pFld,h2]
theorem p55 (c:Cls) (h:bCls c) (hf:few c):F55 c=some (pCls tS abS c):=by
 obtain ⟨c0,c1,c2,c3,c4,c5,c6⟩:=c
 obtain ⟨⟨a1,a2⟩,a3,a4,a5,a6⟩:=h
 obtain ⟨f1,f2,f3,f4⟩:=hf
 simp only at a1 a2 a3 a4 a5 a6 f1 f2 f3 f4
 simp (discharger:=omega) only [F55,p134,p136,zAB,decide_true,zAG,zAV,List.length_append,zAY,zBD,zAW,Bool.and_true]
 refine zBr (fun out i=>(out,(i:Int),c0,c1,c2,c3,c4,c5,c6)) (fun out=>(out,c0,c1,c2,c3,c4,c5,c6)) c0 (pEnt tS) 1048586 (fun x hx=>zMe zBD x (a2 x hx)) 10 rfl (by simp) ?_ ?_ ?_
 ·intro out
  simp only [Int.lt_irrefl,decide_false,zAK,if_false]
 ·intro out i hi ho
  have hi':(i:Int)<c0.length:=by omega
  have h0:(0:Int)≤i:=by omega
  have hb:=a2 _ (List.getElem_mem hi)
  have q1:=p135 _ hb
  have l1:=zMe zBD _ hb
  simp (discharger:=omega) only [hi',h0,decide_true,zAJ,if_true,zAG,Int.toNat_natCast,zAL,q1,zAB,zAV,zAW,wI]
  rfl
 intro hl
 simp only [List.length_append,zAY,zBD] at hl
 simp (discharger:=omega) only [zAB,zAW,decide_true,zAG,zAV,List.length_append,zAY,zBD]
 refine zBr (fun out i=>(out,(i:Int),c0,c1,c2,c3,c4,c5,c6)) (fun out=>(out,c0,c1,c2,c3,c4,c5,c6)) c4 tS 2 (fun x hx=>by simp) 70000000 rfl (by simp only [List.length_append,zAY,zBD];omega) ?_ ?_ ?_
 ·intro out
  simp only [Int.lt_irrefl,decide_false,zAK,if_false]
 ·intro out i hi ho
  have hi':(i:Int)<c4.length:=by omega
  have h0:(0:Int)≤i:=by omega
  simp (discharger:=omega) only [hi',h0,decide_true,zAJ,if_true,zAG,Int.toNat_natCast,zAL,zAB,zAV,zAW,zBD,wI]
  rfl
 intro hl2
 simp only [List.length_append,zAY,zBD] at hl2
 simp (discharger:=omega) only [zAB,zAW,decide_true,zAG,zAV,List.length_append,zAY,zBD]
 refine zBr (fun out i=>(out,(i:Int),c0,c1,c2,c3,c4,c5,c6)) (fun out=>(out,c0,c1,c2,c3,c4,c5,c6)) c5 (pFld tS) 5 (fun x hx=>zSd zBD x) 80000000 rfl (by simp only [List.length_append,zAY,zBD];omega) ?_ ?_ ?_
 ·intro out
  simp only [Int.lt_irrefl,decide_false,zAK,if_false]
 ·intro out i hi ho
  have hi':(i:Int)<c5.length:=by omega
  have h0:(0:Int)≤i:=by omega
  simp (discharger:=omega) only [hi',h0,decide_true,zAJ,if_true,zAG,Int.toNat_natCast,zAL,zAB,zAV,zAW,zAY,zBD,List.length_append,wI,pFld,List.append_assoc,Bool.and_true]
  rfl
 intro hl3
 simp only [List.length_append,zAY,zBD] at hl3
 simp (discharger:=omega) only [zAB,zAW,decide_true,zAG,zAV,List.length_append,zAY,zBD]
 refine zBr (fun out i=>(out,(i:Int),c0,c1,c2,c3,c4,c5,c6)) (fun out=>out) c6 (pMth tS abS) 8796093022208 (fun x hx=>zMb zBD abS x (a6 x hx)) 90000000 rfl (by simp only [List.length_append,zAY,zBD];omega) ?_ ?_ ?_
 ·intro out
  simp only [Int.lt_irrefl,decide_false,zAK,if_false]
 ·intro out i hi ho
  have hi':(i:Int)<c6.length:=by omega
  have h0:(0:Int)≤i:=by omega
  have hb:=a6 _ (List.getElem_mem hi)
  have q1:=p137 _ hb
  have l1:=zMb zBD abS _ hb
  simp (discharger:=omega) only [hi',h0,decide_true,zAJ,if_true,zAG,Int.toNat_natCast,zAL,q1,zAB,zAV,zAW,wI]
  rfl
 ·intro _
  simp only [pCls,List.append_assoc]
theorem p146 (l:List Knd) (h:zGX l):F146 l=some (zMc tI l):=by
 simp only [zGX] at h
 simp only [F146,p144,p145,zAB]
 refine (congrArg (bindE · _) (zMY (fun out i=>(out,l,(l.length:Int),(i:Int))) (fun out=>(Sum.inl out:List UInt8 ⊕ List UInt8)) l (pKnd tI) 3 (fun x _=>by simp only [pKnd];split <;> simp) 1 ?_ ?_ (w1 l.length) (by simp)).1).trans rfl
 ·intro out
  simp only [Int.lt_irrefl,decide_false,zAK]
 ·intro out i hi ho
  have hi':(i:Int)<l.length:=by omega
  have h0:(0:Int)≤i:=by omega
  simp (discharger:=omega) only [hi',h0,decide_true,zAJ,zAG,Int.toNat_natCast,zAL,zAE,zAo]
  by_cases hk:l[i].1=3 <;>
  ·simp (discharger:=omega) only [hk,pKnd,↓reduceIte,zAW,zAY,zBA,List.length_append,zAC,wI,List.append_assoc,List.append_nil]
   rfl
theorem zCp:([83,84,79,87]:List UInt8).length=4:=by decide
theorem p86 (n:Int):F86 n=some (abI n):=rfl
theorem p67 (c:Cls) (h:bCls c) (hf:few c):F67 c=some (pCls tI abI c):=by
 obtain ⟨c0,c1,c2,c3,c4,c5,c6⟩:=c
 obtain ⟨⟨a1,a2⟩,a3,a4,a5,a6⟩:=h
 obtain ⟨f1,f2,f3,f4⟩:=hf
 simp only at a1 a2 a3 a4 a5 a6 f1 f2 f3 f4
 simp (discharger:=omega) only [F67,p144,p145,p86,zAB,decide_true,zAG,zAV,List.length_append,zAY,zBA,zAW,Bool.and_true]
 refine zBr (fun out i=>(out,c0,(c0.length:Int),(i:Int),c0,c1,c2,c3,c4,c5,c6)) (fun out=>(out,c0,c1,c2,c3,c4,c5,c6)) c0 (pEnt tI) 1048586 (fun x hx=>zMe zBA x (a2 x hx)) 10 rfl (by simp) ?_ ?_ ?_
 ·intro out
  simp only [Int.lt_irrefl,decide_false,zAK,if_false]
 ·intro out i hi ho
  have hi':(i:Int)<c0.length:=by omega
  have h0:(0:Int)≤i:=by omega
  have hb:=a2 _ (List.getElem_mem hi)
  simp only [bCst] at hb
  simp (discharger:=omega) only [hi',h0,decide_true,zAJ,if_true,zAG,Int.toNat_natCast,zAL,zAB,zAV,zAW,zAY,zBA,List.length_append,wI,zAE,zAo]
  by_cases e1:c0[i].1=1
  ·simp (discharger:=omega) only [e1,pEnt,↓reduceIte,zAC,zAW,zAV,zAY,zBA,List.length_append,List.append_assoc,wI]
   rfl
  ·by_cases e2:c0[i].1=2
   ·simp (discharger:=omega) only [e2,pEnt,Int.reduceEq,↓reduceIte,zAC,zAW,zAV,zAY,zBA,List.length_append,List.append_assoc,wI]
    rfl
   ·simp (discharger:=omega) only [e1,e2,pEnt,↓reduceIte,zAC,zAW,zAV,zAY,zBA,List.length_append,List.append_assoc,wI]
    rfl
 intro hl
 simp only [List.length_append,zAY,zBA,zCp] at hl
 simp (discharger:=omega) only [zAB,zAW,decide_true,zAG,zAV,List.length_append,zAY,zBA,zCp]
 refine zBr (fun out i=>(out,c4,(c4.length:Int),(i:Int),c0,c1,c2,c3,c4,c5,c6)) (fun out=>(out,c0,c1,c2,c3,c4,c5,c6)) c4 tI 2 (fun x hx=>by simp) 70000000 rfl (by simp only [List.length_append,zAY,zBA,zCp];omega) ?_ ?_ ?_
 ·intro out
  simp only [Int.lt_irrefl,decide_false,zAK,if_false]
 ·intro out i hi ho
  have hi':(i:Int)<c4.length:=by omega
  have h0:(0:Int)≤i:=by omega
  simp (discharger:=omega) only [hi',h0,decide_true,zAJ,if_true,zAG,Int.toNat_natCast,zAL,zAB,zAV,zAW,zAY,zBA,List.length_append,wI,List.append_assoc,Bool.and_true]
  rfl
 intro hl2
 simp only [List.length_append,zAY,zBA,zCp] at hl2
 simp (discharger:=omega) only [zAB,zAW,decide_true,zAG,zAV,List.length_append,zAY,zBA,zCp]
 refine zBr (fun out i=>(out,c5,(c5.length:Int),(i:Int),c0,c1,c2,c3,c4,c5,c6)) (fun out=>(out,c0,c1,c2,c3,c4,c5,c6)) c5 (pFld tI) 5 (fun x hx=>zSd zBA x) 80000000 rfl (by simp only [List.length_append,zAY,zBA,zCp];omega) ?_ ?_ ?_
 ·intro out
  simp only [Int.lt_irrefl,decide_false,zAK,if_false]
 ·intro out i hi ho
  have hi':(i:Int)<c5.length:=by omega
  have h0:(0:Int)≤i:=by omega
  simp (discharger:=omega) only [hi',h0,decide_true,zAJ,if_true,zAG,Int.toNat_natCast,zAL,pFld,zAB,zAV,zAW,zAY,zBA,List.length_append,wI,List.append_assoc,Bool.and_true]
  rfl
 intro hl3
 simp only [List.length_append,zAY,zBA,zCp] at hl3
 simp (discharger:=omega) only [zAB,zAW,decide_true,zAG,zAV,List.length_append,zAY,zBA,zCp]
 refine zBr (fun out i=>(out,c6,(c6.length:Int),(i:Int))) (fun out=>out) c6 (pMth tI abI) 8796093022208 (fun x hx=>zMb zBA abI x (a6 x hx)) 90000000 rfl (by simp only [List.length_append,zAY,zBA,zCp];omega) ?_ ?_ ?_
 ·intro out
  simp only [Int.lt_irrefl,decide_false,zAK,if_false]
 ·intro out i hi ho
  have hi':(i:Int)<c6.length:=by omega
  have h0:(0:Int)≤i:=by omega
  have hb:=a6 _ (List.getElem_mem hi)
  rcases hm:c6[i] with ⟨m0,m1,m2,m3,m4,m5,m6,m7⟩
  rw [hm] at hb
  obtain ⟨b1,b2,b3,b4⟩:=hb
  simp only at b1 b2 b3 b4
  simp (discharger:=omega) only [hi',h0,decide_true,zAJ,if_true,zAG,Int.toNat_natCast,zAL,hm,p86,zAB,zAV,zAW,zAY,zBA,List.length_append,wI]
  cases hab:abI m0 with
  | true =>
    simp (discharger:=omega) only [zAJ,zAC,pMth,hab,if_true,List.append_assoc,List.append_nil,wI]
    rfl
  | false =>
  simp (discharger:=omega) only [zAK,zAB,zAV,zAW,decide_true,zAG,zAY,zBA,List.length_append]
  refine (congrArg (bindE · _) (?_:_=some (Sum.inl (out++pMth tI abI (m0,m1,m2,m3,m4,m5,m6,m7),c6,(c6.length:Int),(i:Int))))).trans (by simp (discharger:=omega) only [zAC,wI];rfl)
  refine zBr (fun out j=>(out,c6,(c6.length:Int),(i:Int),m6,(m6.length:Int),(j:Int),m0,m1,m2,m3,m4,m5,m6,m7)) (fun out=>(out,c6,(c6.length:Int),(i:Int),m0,m1,m2,m3,m4,m5,m6,m7)) m6 (pTrp tI) 8 (fun x hx=>zMa zBA x) 100000000000000 rfl (by simp only [List.length_append,zAY,zBA];omega) ?_ ?_ ?_
  ·intro out
   simp only [Int.lt_irrefl,decide_false,zAK,if_false]
  ·intro out j hj ho2
   have hj':(j:Int)<m6.length:=by omega
   have h0:(0:Int)≤j:=by omega
   simp (discharger:=omega) only [hj',h0,decide_true,zAJ,if_true,zAG,Int.toNat_natCast,zAL,pTrp,zAB,zAV,zAW,zAY,zBA,List.length_append,wI,List.append_assoc,Bool.and_true]
   rfl
  intro hl4
  simp only [List.length_append,zAY,zBA] at hl4
  simp (discharger:=omega) only [zAB,zAW,decide_true,zAG,zAV,List.length_append,zAY,zBA]
  refine zBr (fun out j=>(out,c6,(c6.length:Int),(i:Int),m7,(m7.length:Int),(j:Int))) (fun out=>(out,c6,(c6.length:Int),(i:Int))) m7 (pFrm tI) 6291460 (fun x hx=>zMd zBA x (b4 x hx)) 200000000000000 rfl (by simp only [List.length_append,zAY,zBA];omega) ?_ ?_ ?_
  ·intro out
   simp only [Int.lt_irrefl,decide_false,zAK,if_false]
  ·intro out j hj ho2
   have hj':(j:Int)<m7.length:=by omega
   have h0:(0:Int)≤j:=by omega
   have hb:=b4 _ (List.getElem_mem hj)
   have q1:=p146 _ hb.1
   have q2:=p146 _ hb.2
   have l1:=zDf zBA _ hb.1
   have l2:=zDf zBA _ hb.2
   simp (discharger:=omega) only [hj',h0,decide_true,zAJ,if_true,zAG,Int.toNat_natCast,zAL,q1,q2,pFrm,zAB,zAV,zAW,zAY,zBA,List.length_append,wI,List.append_assoc,Bool.and_true]
   rfl
  intro _
  simp only [pMth,hab,Bool.false_eq_true,if_false,List.append_assoc]
 ·intro _
  simp only [pCls,List.append_assoc]
def i1 (n:Int):Prop:=0≤n∧n≤255
def i2 (n:Int):Prop:=0≤n∧n≤65535
def fEnt (c:Cst):Prop:=(1≤c.1∧c.1≤6)∧c.2.1.length≤255∧i2 c.2.2.1∧i2 c.2.2.2
def fKnd (k:Knd):Prop:=(0≤k.1∧k.1≤3)∧i2 k.2
def fKnds (l:List Knd):Prop:=l.length≤8∧∀ k∈l,fKnd k
def fTrp (t:Trp):Prop:=i2 t.1∧i2 t.2.1∧i2 t.2.2.1∧i2 t.2.2.2
def fFrm (f:Frm):Prop:=i2 f.1∧fKnds f.2.1∧fKnds f.2.2
def fFld (t:Fld):Prop:=i1 t.1∧i2 t.2.1∧i2 t.2.2
def fMth (m:Mth):Prop:=i1 m.1∧i2 m.2.1∧i2 m.2.2.1∧i1 m.2.2.2.1∧i1 m.2.2.2.2.1∧m.2.2.2.2.2.1.length≤120∧(m.2.2.2.2.2.2.1.length≤3∧∀ t∈m.2.2.2.2.2.2.1,fTrp t)∧m.2.2.2.2.2.2.2.length≤8∧∀ f∈m.2.2.2.2.2.2.2,fFrm f
def fCls (c:Cls):Prop:=few c∧(∀ x∈c.1,fEnt x)∧i1 c.2.1∧i2 c.2.2.1∧i2 c.2.2.2.1∧(∀ x∈c.2.2.2.2.1,i2 x)∧(∀ x∈c.2.2.2.2.2.1,fFld x)∧∀ x∈c.2.2.2.2.2.2,fMth x
theorem zAt {α β:Type} {m:Option α} {k:α→Option β} {r:β} (h:m.bind k=some r):∃ a,m=some a∧k a=some r:=by
 cases m with
 | none=>cases h
 | some a=>exact ⟨a,rfl,h⟩
theorem gT_len {n:Int} {l:List UInt8} {p:List UInt8×List UInt8} (h:gT n l=some p):p.1.length≤n.toNat:=by
 unfold gT at h
 split at h
 ·simp only [Option.some.injEq] at h;rw [← h];simp only [List.length_take];omega
 ·cases h
theorem zCF {β:Type} {most:Int} {g:List UInt8→Option (β×List UInt8)} {P:β→Prop} (hg:∀ l v l',g l=some (v,l')→P v) {l l':List UInt8} {vs:List β} (h:zBi most g l=some (vs,l')):(vs.length:Int)≤most∧∀ v∈vs,P v:=by
 obtain ⟨p,h1,h2⟩:=zAt h
 split at h2
 ·cases h2
 ·have:=zDJ (l:=l) (v:=p.1) (l':=p.2) h1
  have:=zSo _ _ _ _ h2
  exact ⟨by omega,zSp hg _ _ _ _ h2⟩
theorem zEw (l:List UInt8) (v:Int) (l':List UInt8) (h:g2 l=some (v,l')):i2 v:=zVc h
theorem zVd (l:List UInt8) (v:Int) (l':List UInt8) (h:g1 l=some (v,l')):i1 v:=zDJ h
theorem fit_ent (l:List UInt8) (v:Cst) (l':List UInt8) (h:zCm l=some (v,l')):fEnt v:=by
 obtain ⟨⟨t,l1⟩,h1,h2⟩:=zAt h
 simp only at h2
 unfold gEnt at h2
 split at h2
 ·obtain ⟨⟨n,l2⟩,h3,h4⟩:=zAt h2
  obtain ⟨q,h5,h6⟩:=zAt h4
  simp only [Option.some.injEq,Prod.mk.injEq] at h6
  obtain ⟨rfl,_⟩:=h6
  have:=zDJ h3
  have:=gT_len h5
  refine ⟨⟨by simp,by simp⟩,by simp only;omega,⟨by simp,by simp⟩,⟨by simp,by simp⟩⟩
 ·split at h2
  ·obtain ⟨⟨n,l2⟩,h3,h4⟩:=zAt h2
   simp only [Option.some.injEq,Prod.mk.injEq] at h4
   obtain ⟨rfl,_⟩:=h4
   exact ⟨⟨by simp,by simp⟩,by simp,zEw _ _ _ h3,⟨by simp,by simp⟩⟩
  ·split at h2
   ·rename_i ht
    obtain ⟨⟨n,l2⟩,h3,h4⟩:=zAt h2
    obtain ⟨⟨n2,l3⟩,h5,h6⟩:=zAt h4
    simp only [Option.some.injEq,Prod.mk.injEq] at h6
    obtain ⟨rfl,_⟩:=h6
    exact ⟨⟨by simp only;omega,by simp only;omega⟩,by simp,zEw _ _ _ h3,zEw _ _ _ h5⟩
   ·cases h2
theorem zVm (l:List UInt8) (v:Knd) (l':List UInt8) (h:gKnd l=some (v,l')):fKnd v:=by
 obtain ⟨⟨t,l1⟩,h1,h2⟩:=zAt h
 simp only at h2
 have:=zDJ h1
 split at h2
 ·obtain ⟨⟨n,l2⟩,h3,h4⟩:=zAt h2
  simp only [Option.some.injEq,Prod.mk.injEq] at h4
  obtain ⟨rfl,_⟩:=h4
  exact ⟨⟨by simp,by simp⟩,zEw _ _ _ h3⟩
 ·split at h2
  ·cases h2
  ·simp only [Option.some.injEq,Prod.mk.injEq] at h2
   obtain ⟨rfl,_⟩:=h2
   exact ⟨⟨by simp only;omega,by simp only;omega⟩,⟨by simp,by simp⟩⟩
theorem fit_trp (l:List UInt8) (v:Trp) (l':List UInt8) (h:gTrp l=some (v,l')):fTrp v:=by
 obtain ⟨⟨a,_⟩,h1,h⟩:=zAt h
 obtain ⟨⟨b,_⟩,h2,h⟩:=zAt h
 obtain ⟨⟨c,_⟩,h3,h⟩:=zAt h
 obtain ⟨⟨d,_⟩,h4,h⟩:=zAt h
 simp only [Option.some.injEq,Prod.mk.injEq] at h
 obtain ⟨rfl,_⟩:=h
 exact ⟨zEw _ _ _ h1,zEw _ _ _ h2,zEw _ _ _ h3,zEw _ _ _ h4⟩
theorem fit_frm (l:List UInt8) (v:Frm) (l':List UInt8) (h:gFrm l=some (v,l')):fFrm v:=by
 obtain ⟨⟨a,_⟩,h1,h⟩:=zAt h
 obtain ⟨⟨b,_⟩,h2,h⟩:=zAt h
 obtain ⟨⟨c,_⟩,h3,h⟩:=zAt h
 simp only [Option.some.injEq,Prod.mk.injEq] at h
 obtain ⟨rfl,_⟩:=h
 obtain ⟨q1,q2⟩:=zCF zVm h2
 obtain ⟨r1,r2⟩:=zCF zVm h3
 exact ⟨zEw _ _ _ h1,⟨by simp only;omega,q2⟩,⟨by simp only;omega,r2⟩⟩
theorem fit_fld (l:List UInt8) (v:Fld) (l':List UInt8) (h:gFld l=some (v,l')):fFld v:=by
 obtain ⟨⟨a,_⟩,h1,h⟩:=zAt h
 obtain ⟨⟨b,_⟩,h2,h⟩:=zAt h
 obtain ⟨⟨c,_⟩,h3,h⟩:=zAt h
 simp only [Option.some.injEq,Prod.mk.injEq] at h
 obtain ⟨rfl,_⟩:=h
 exact ⟨zVd _ _ _ h1,zEw _ _ _ h2,zEw _ _ _ h3⟩
theorem fit_mth (l:List UInt8) (v:Mth) (l':List UInt8) (h:gMth l=some (v,l')):fMth v:=by
 obtain ⟨⟨f,_⟩,h1,h⟩:=zAt h
 obtain ⟨⟨n,_⟩,h2,h⟩:=zAt h
 obtain ⟨⟨d,_⟩,h3,h⟩:=zAt h
 have q1:=zVd _ _ _ h1
 have q2:=zEw _ _ _ h2
 have q3:=zEw _ _ _ h3
 have z:i1 0:=⟨by omega,by omega⟩
 unfold m3 at h
 split at h
 ·simp only [Option.some.injEq,Prod.mk.injEq] at h
  obtain ⟨rfl,_⟩:=h
  exact ⟨q1,q2,q3,z,z,by simp,⟨by simp,by simp⟩,by simp,by simp⟩
 ·obtain ⟨⟨s,_⟩,h4,h⟩:=zAt h
  obtain ⟨⟨lo,_⟩,h5,h⟩:=zAt h
  obtain ⟨⟨k,_⟩,h6,h⟩:=zAt h
  unfold b5 at h
  split at h
  ·cases h
  ·obtain ⟨⟨code,_⟩,h7,h⟩:=zAt h
   obtain ⟨⟨tr,_⟩,h8,h⟩:=zAt h
   obtain ⟨⟨fr,_⟩,h9,h⟩:=zAt h
   simp only [Option.some.injEq,Prod.mk.injEq] at h
   obtain ⟨rfl,_⟩:=h
   have hc:=gT_len h7
   obtain ⟨t1,t2⟩:=zCF fit_trp h8
   obtain ⟨r1,r2⟩:=zCF fit_frm h9
   exact ⟨q1,q2,q3,zVd _ _ _ h4,zVd _ _ _ h5,by simp only at hc ⊢;omega,⟨by simp only;omega,t2⟩,by simp only;omega,r2⟩
theorem zMx (l:List UInt8) (v:Cls) (l':List UInt8) (h:gCls l=some (v,l')):fCls v:=by
 obtain ⟨⟨t,_⟩,_,h⟩:=zAt h
 unfold gc1 at h
 split at h
 ·cases h
 obtain ⟨⟨pool,_⟩,h1,h⟩:=zAt h
 obtain ⟨⟨f,_⟩,h2,h⟩:=zAt h
 obtain ⟨⟨n,_⟩,h3,h⟩:=zAt h
 obtain ⟨⟨s,_⟩,h4,h⟩:=zAt h
 obtain ⟨⟨fa,_⟩,h5,h⟩:=zAt h
 obtain ⟨⟨fi,_⟩,h6,h⟩:=zAt h
 obtain ⟨⟨me,_⟩,h7,h⟩:=zAt h
 simp only [Option.some.injEq,Prod.mk.injEq] at h
 obtain ⟨rfl,_⟩:=h
 obtain ⟨p1,p2⟩:=zCF fit_ent h1
 obtain ⟨a1,a2⟩:=zCF zEw h5
 obtain ⟨i1,i2⟩:=zCF fit_fld h6
 obtain ⟨m1,m2⟩:=zCF fit_mth h7
 exact ⟨⟨by simp only;omega,by simp only;omega,by simp only;omega,by simp only;omega⟩,p2,zVd _ _ _ h2,zEw _ _ _ h3,zEw _ _ _ h4,a2,i2,m2⟩
theorem zCl (n:Int) (h:i2 n):tS n=tI n:=by
 obtain ⟨h1,h2⟩:=h
 have e1:Int.tdiv n 256=n / 256:=Int.tdiv_eq_ediv_of_nonneg h1
 have e2:Int.tmod n 256=n % 256:=Int.tmod_eq_emod_of_nonneg h1
 have e3:Int.fdiv n 256=n / 256:=Int.fdiv_eq_ediv_of_nonneg n (by omega)
 have w:∀ m:Int,IntKind.wrap .u8 m=m % 256:=fun m=>by simp [IntKind.wrap,IntKind.bits,IntKind.signed]
 unfold tS tI
 rw [e1,e2,e3,wI (by omega) (by omega)]
 congr 1
 unfold w1
 rw [w,w]
 congr 3
 omega
theorem abS_eq (n:Int) (h:i1 n):abS n=abI n:=by
 obtain ⟨h1,h2⟩:=h
 have:=zWE ⟨n.toNat,by omega⟩
 have e:((n.toNat:Nat):Int)=n:=by omega
 rw [show (⟨n.toNat,by omega⟩:Fin 256).val=n.toNat from rfl,e] at this
 unfold abS abI
 rw [this]
 have q:Int.tmod n 16=n % 16:=Int.tmod_eq_emod_of_nonneg h1
 have q2:Int.tdiv (n % 16) 8=n % 16 / 8:=Int.tdiv_eq_ediv_of_nonneg (by omega)
 rw [wI (by rw [q,q2];omega) (by rw [q,q2];omega)]
 rfl
theorem zID {α β:Type} {f g:α→β} {l:List α} (h:∀ x∈l,f x=g x):l.map f=l.map g:=List.map_congr_left h
theorem ent_eq (c:Cst) (h:fEnt c):pEnt tS c=pEnt tI c:=by
 simp only [pEnt,zCl _ h.2.2.1,zCl _ h.2.2.2]
theorem zVR (l:List Knd) (h:fKnds l):zMc tS l=zMc tI l:=by
 simp only [zMc]
 rw [zID (f:=pKnd tS) (g:=pKnd tI) fun x hx=>by simp only [pKnd,zCl _ (h.2 x hx).2]]
theorem mth_eq (m:Mth) (h:fMth m):pMth tS abS m=pMth tI abI m:=by
 obtain ⟨h1,h2,h3,h4,h5,h6,⟨h7,h8⟩,h9,h10⟩:=h
 simp only [pMth,zCl _ h2,zCl _ h3,abS_eq _ h1]
 rw [zCl _ (show i2 (m.2.2.2.2.2.1.length:Int) from ⟨by omega,by omega⟩)]
 rw [zID (f:=pTrp tS) (g:=pTrp tI) fun x hx=>by
  obtain ⟨q1,q2,q3,q4⟩:=h8 x hx
  simp only [pTrp,zCl _ q1,zCl _ q2,zCl _ q3,zCl _ q4]]
 rw [zID (f:=pFrm tS) (g:=pFrm tI) fun x hx=>by
  obtain ⟨q1,q2,q3⟩:=h10 x hx
  simp only [pFrm,zCl _ q1,zVR _ q2,zVR _ q3]]
theorem zQE (c:Cls) (h:fCls c):pCls tS abS c=pCls tI abI c:=by
 obtain ⟨_,h1,h2,h3,h4,h5,h6,h7⟩:=h
 simp only [pCls,zCl _ h3,zCl _ h4]
 rw [zID (f:=pEnt tS) (g:=pEnt tI) fun x hx=>ent_eq x (h1 x hx),zID (f:=tS) (g:=tI) fun x hx=>zCl x (h5 x hx),zID (f:=pMth tS abS) (g:=pMth tI abI) fun x hx=>mth_eq x (h7 x hx)]
 rw [zID (f:=pFld tS) (g:=pFld tI) fun x hx=>by
  obtain ⟨q1,q2,q3⟩:=h6 x hx
  simp only [pFld,zCl _ q2,zCl _ q3]]
end Go.Proofs.YtdpapeledldifaaGreat
end
section
namespace Go.TM
open Go.AM
section
variable {α X Y R:Type}
theorem zBY [DecidableEq α] {f:X→Option (X ⊕ (Y ⊕ R))} (mk:Nat→X) (fin:Y) (no:R) (a b:List α) (hl:a.length=b.length) {x0:X} (hx:x0=mk 0) {k:Y→Option R}
  (hend:f (mk a.length)=some (.inr (.inl fin)))
  (hstep:∀ i (h:i<a.length) (h':i<b.length),f (mk i)=if a[i]=b[i] then some (.inl (mk (i+1))) else some (.inr (.inr no))) :
  bindE (zAF f x0) k=if a=b then k fin else some no:=by
 have key:∀ (m i:Nat),i+m=a.length→zAF f (mk i)=some (if a.drop i=b.drop i then .inl fin else .inr no):=by
  intro m
  induction m with
  | zero =>
    intro i hi
    have:i=a.length:=by omega
    subst this
    rw [zAk,hend,List.drop_eq_nil_of_le (Nat.le_refl _),List.drop_eq_nil_of_le (by omega),if_pos rfl]
  | succ m ih =>
    intro i hi
    have h:i<a.length:=by omega
    have h':i<b.length:=by omega
    rw [zAk,hstep i h h',zBT h,zBT h']
    by_cases hab:a[i]=b[i]
    ·rw [if_pos hab]
     simp only [hab,List.cons.injEq,true_and]
     exact ih (i+1) (by omega)
    ·rw [if_neg hab,if_neg (fun h=>hab (List.cons.inj h).1)]
 rw [hx,key a.length 0 (by omega),List.drop_zero,List.drop_zero]
 by_cases h:a=b
 ·simp only [h,if_true,zAC]
 ·simp only [h,if_false,zAH]
theorem zIG {p:Prop} [Decidable p]:(if p then some true else some false:Option Bool)=some (decide p):=by by_cases h:p <;> simp [h]
end
end Go.TM
namespace Go.Proofs.YtdpapeledldifaaGreat
open Go Go.AM Go.TM
theorem row4 {α:Type} [DecidableEq α] (x y:Int×α×Int×Int):(decide (x.1=y.1) && (decide (x.2.1=y.2.1) && (decide (x.2.2.1=y.2.2.1) && (decide (x.2.2.2=y.2.2.2) && true))))=decide (x=y):=by
 obtain ⟨a,b,c,d⟩:=x;obtain ⟨a',b',c',d'⟩:=y
 simp only [Prod.mk.injEq,Bool.and_true,Bool.decide_and]
theorem row3 (x y:Int×Int×Int):(decide (x.1=y.1) && (decide (x.2.1=y.2.1) && (decide (x.2.2=y.2.2) && true)))=decide (x=y):=by
 obtain ⟨a,b,c⟩:=x;obtain ⟨a',b',c'⟩:=y
 simp only [Prod.mk.injEq,Bool.and_true,Bool.decide_and]
theorem row2 (x y:Int×Int):(decide (x.1=y.1) && (decide (x.2=y.2) && true))=decide (x=y):=by
 obtain ⟨a,b⟩:=x;obtain ⟨a',b'⟩:=y
 simp only [Prod.mk.injEq,Bool.and_true,Bool.decide_and]
theorem q152 (a b:List Cst) (ha:a.length≤1048576):F152 (a,b)=some (decide (a=b)):=by
 simp only [F152,zAS,zAE]
 by_cases hl:(a.length:Int)=b.length
 ·have hl':a.length=b.length:=by omega
  rw [if_pos hl]
  refine (zBY (fun i=>(a,b,(i:Int))) () false a b hl' rfl ?_ ?_).trans zIG
  ·simp only [Int.lt_irrefl,decide_false,zAK,if_false]
  ·intro i h h'
   have hi:(i:Int)<a.length:=by omega
   have hi2:(i:Int)<b.length:=by omega
   have h0:(0:Int)≤i:=by omega
   simp (discharger:=omega) only [hi,hl.symm,h0,decide_true,zAJ,if_true,zAG,Int.toNat_natCast,zAL,row4,zAE,wI]
   rfl
 ·rw [if_neg hl]
  have:a≠b:=fun h=>hl (by rw [h])
  simp [this]
theorem q282 (a b:List Knd) (ha:a.length≤1048576):F282 (a,b)=some (decide (a=b)):=by
 simp only [F282,zAS,zAE]
 by_cases hl:(a.length:Int)=b.length
 ·have hl':a.length=b.length:=by omega
  rw [if_pos hl]
  refine (zBY (fun i=>(a,b,(i:Int))) () false a b hl' rfl ?_ ?_).trans zIG
  ·simp only [Int.lt_irrefl,decide_false,zAK,if_false]
  ·intro i h h'
   have hi:(i:Int)<a.length:=by omega
   have hi2:(i:Int)<b.length:=by omega
   have h0:(0:Int)≤i:=by omega
   simp (discharger:=omega) only [hi,hl.symm,h0,decide_true,zAJ,if_true,zAG,Int.toNat_natCast,zAL,row2,zAE,wI]
   rfl
 ·rw [if_neg hl]
  have:a≠b:=fun h=>hl (by rw [h])
  simp [this]
theorem q147 (a b:List Cst) (ha:a.length≤1048576):F147 (a,b)=some (decide (a=b)):=by
 simp only [F147,zAS,zAE]
 by_cases hl:(a.length:Int)=b.length
 ·have hl':a.length=b.length:=by omega
  rw [if_pos hl]
  refine (zBY (fun i=>(a,b,(a.length:Int),(i:Int))) () false a b hl' rfl ?_ ?_).trans zIG
  ·simp only [Int.lt_irrefl,decide_false,zAK,if_false]
  ·intro i h h'
   have hi:(i:Int)<a.length:=by omega
   have hi2:(i:Int)<b.length:=by omega
   have h0:(0:Int)≤i:=by omega
   simp (discharger:=omega) only [hi,hl.symm,h0,decide_true,zAJ,if_true,zAG,Int.toNat_natCast,zAL,row4,zAE,wI]
   rfl
 ·rw [if_neg hl]
  have:a≠b:=fun h=>hl (by rw [h])
  simp [this]
theorem q148 (a b:List Int) (ha:a.length≤1048576):F148 (a,b)=some (decide (a=b)):=by
 simp only [F148,zAS,zAE]
 by_cases hl:(a.length:Int)=b.length
 ·have hl':a.length=b.length:=by omega
  rw [if_pos hl]
  refine (zBY (fun i=>(a,b,(a.length:Int),(i:Int))) () false a b hl' rfl ?_ ?_).trans zIG
  ·simp only [Int.lt_irrefl,decide_false,zAK,if_false]
  ·intro i h h'
   have hi:(i:Int)<a.length:=by omega
   have hi2:(i:Int)<b.length:=by omega
   have h0:(0:Int)≤i:=by omega
   simp (discharger:=omega) only [hi,hl.symm,h0,decide_true,zAJ,if_true,zAG,Int.toNat_natCast,zAL,zAE,wI]
   rfl
 ·rw [if_neg hl]
  have:a≠b:=fun h=>hl (by rw [h])
  simp [this]
theorem q149 (a b:List Fld) (ha:a.length≤1048576):F149 (a,b)=some (decide (a=b)):=by
 simp only [F149,zAS,zAE]
 by_cases hl:(a.length:Int)=b.length
 ·have hl':a.length=b.length:=by omega
  rw [if_pos hl]
  refine (zBY (fun i=>(a,b,(a.length:Int),(i:Int))) () false a b hl' rfl ?_ ?_).trans zIG
  ·simp only [Int.lt_irrefl,decide_false,zAK,if_false]
  ·intro i h h'
   have hi:(i:Int)<a.length:=by omega
   have hi2:(i:Int)<b.length:=by omega
   have h0:(0:Int)≤i:=by omega
   simp (discharger:=omega) only [hi,hl.symm,h0,decide_true,zAJ,if_true,zAG,Int.toNat_natCast,zAL,row3,zAE,wI]
   rfl
 ·rw [if_neg hl]
  have:a≠b:=fun h=>hl (by rw [h])
  simp [this]
theorem q224 (a b:List Trp) (ha:a.length≤1048576):F224 (a,b)=some (decide (a=b)):=by
 simp only [F224,zAS,zAE]
 by_cases hl:(a.length:Int)=b.length
 ·have hl':a.length=b.length:=by omega
  rw [if_pos hl]
  refine (zBY (fun i=>(a,b,(a.length:Int),(i:Int))) () false a b hl' rfl ?_ ?_).trans zIG
  ·simp only [Int.lt_irrefl,decide_false,zAK,if_false]
  ·intro i h h'
   have hi:(i:Int)<a.length:=by omega
   have hi2:(i:Int)<b.length:=by omega
   have h0:(0:Int)≤i:=by omega
   simp (discharger:=omega) only [hi,hl.symm,h0,decide_true,zAJ,if_true,zAG,Int.toNat_natCast,zAL,row4,zAE,wI]
   rfl
 ·rw [if_neg hl]
  have:a≠b:=fun h=>hl (by rw [h])
  simp [this]
theorem q227 (a b:List Knd) (ha:a.length≤1048576):F227 (a,b)=some (decide (a=b)):=by
 simp only [F227,zAS,zAE]
 by_cases hl:(a.length:Int)=b.length
 ·have hl':a.length=b.length:=by omega
  rw [if_pos hl]
  refine (zBY (fun i=>(a,b,(a.length:Int),(i:Int))) () false a b hl' rfl ?_ ?_).trans zIG
  ·simp only [Int.lt_irrefl,decide_false,zAK,if_false]
  ·intro i h h'
   have hi:(i:Int)<a.length:=by omega
   have hi2:(i:Int)<b.length:=by omega
   have h0:(0:Int)≤i:=by omega
   simp (discharger:=omega) only [hi,hl.symm,h0,decide_true,zAJ,if_true,zAG,Int.toNat_natCast,zAL,row2,zAE,wI]
   rfl
 ·rw [if_neg hl]
  have:a≠b:=fun h=>hl (by rw [h])
  simp [this]
theorem q226 (x y:Frm) (h:bFrm x):F226 (x,y)=some (decide (x=y)):=by
 obtain ⟨a0,a1,a2⟩:=x;obtain ⟨b0,b1,b2⟩:=y
 simp only [F226,q227 a1 b1 h.1,q227 a2 b2 h.2,zAB,zAE,Prod.mk.injEq]
 by_cases h0:a0=b0 <;> by_cases h1:a1=b1 <;> by_cases h2:a2=b2 <;> simp [h0,h1,h2]
theorem q227225 (a b:List Frm) (ha:a.length≤1048576) (hb:∀ x∈a,bFrm x):F227225 (a,b)=some (decide (a=b)):=by
 simp only [F227225,zAS,zAE]
 by_cases hl:(a.length:Int)=b.length
 ·have hl':a.length=b.length:=by omega
  rw [if_pos hl]
  refine (zBY (fun i=>(b,a,(a.length:Int),(i:Int))) () false a b hl' rfl ?_ ?_).trans zIG
  ·simp only [Int.lt_irrefl,decide_false,zAK,if_false]
  ·intro i h h'
   have hi:(i:Int)<a.length:=by omega
   have hi2:(i:Int)<b.length:=by omega
   have h0:(0:Int)≤i:=by omega
   have hq:=q226 a[i] b[i] (hb _ (List.getElem_mem h))
   simp (discharger:=omega) only [hi,hl.symm,h0,decide_true,zAJ,if_true,zAG,Int.toNat_natCast,zAL,hq,zAB,zAE,wI]
   rfl
 ·rw [if_neg hl]
  have:a≠b:=fun h=>hl (by rw [h])
  simp [this]
theorem q151 (x y:Mth) (h:bMth x):F151 (x,y)=some (decide (x=y)):=by
 obtain ⟨a0,a1,a2,a3,a4,a5,a6,a7⟩:=x;obtain ⟨b0,b1,b2,b3,b4,b5,b6,b7⟩:=y
 obtain ⟨h1,h2,h3,h4⟩:=h
 simp only at h1 h2 h3 h4
 simp only [F151,q224 a6 b6 h2,q227225 a7 b7 h3 h4,zAB,zAE,Prod.mk.injEq]
 by_cases h0:a0=b0
 ·by_cases h1:a1=b1
  ·by_cases h2:a2=b2
   ·by_cases h3:a3=b3
    ·by_cases h4:a4=b4
     ·by_cases h5:a5=b5
      ·by_cases h6:a6=b6 <;> by_cases h7:a7=b7 <;> simp [*]
      ·simp [*]
     ·simp [*]
    ·simp [*]
   ·simp [*]
  ·simp [*]
 ·simp [*]
theorem q152150 (a b:List Mth) (ha:a.length≤1048576) (hb:∀ x∈a,bMth x):F152150 (a,b)=some (decide (a=b)):=by
 simp only [F152150,zAS,zAE]
 by_cases hl:(a.length:Int)=b.length
 ·have hl':a.length=b.length:=by omega
  rw [if_pos hl]
  refine (zBY (fun i=>(b,a,(a.length:Int),(i:Int))) () false a b hl' rfl ?_ ?_).trans zIG
  ·simp only [Int.lt_irrefl,decide_false,zAK,if_false]
  ·intro i h h'
   have hi:(i:Int)<a.length:=by omega
   have hi2:(i:Int)<b.length:=by omega
   have h0:(0:Int)≤i:=by omega
   have hq:=q151 a[i] b[i] (hb _ (List.getElem_mem h))
   simp (discharger:=omega) only [hi,hl.symm,h0,decide_true,zAJ,if_true,zAG,Int.toNat_natCast,zAL,hq,zAB,zAE,wI]
   rfl
 ·rw [if_neg hl]
  have:a≠b:=fun h=>hl (by rw [h])
  simp [this]
theorem q68 (x y:Cls) (h:bCls x):F68 (x,y)=some (decide (x=y)):=by
 obtain ⟨a0,a1,a2,a3,a4,a5,a6⟩:=x;obtain ⟨b0,b1,b2,b3,b4,b5,b6⟩:=y
 obtain ⟨⟨h1,_⟩,h2,h3,h4,h5⟩:=h
 simp only at h1 h2 h3 h4 h5
 simp only [F68,q147 a0 b0 h1,q148 a4 b4 h2,q149 a5 b5 h3,q152150 a6 b6 h4 h5,zAB,zAE,decide_eq_true_eq,Prod.mk.injEq]
 by_cases h0:a0=b0
 ·by_cases h1:a1=b1
  ·by_cases h2:a2=b2
   ·by_cases h3:a3=b3
    ·by_cases h4:a4=b4
     ·by_cases h5:a5=b5 <;> by_cases h6:a6=b6 <;> simp [*]
     ·simp [*]
    ·simp [*]
   ·simp [*]
  ·simp [*]
 ·simp [*]
end Go.Proofs.YtdpapeledldifaaGreat
end
section
namespace Go.Proofs.YtdpapeledldifaaGreat
open Go Go.AM Go.TM
theorem q228 (a b:List Frm) (ha:a.length≤1048576) (hb:∀ x∈a,bFrm x):F228 (a,b)=some (decide (a=b)):=by
 simp only [F228,zAS,zAE]
 by_cases hl:(a.length:Int)=b.length
 ·have hl':a.length=b.length:=by omega
  rw [if_pos hl]
  refine (zBY (fun i=>(a,b,(i:Int))) () false a b hl' rfl ?_ ?_).trans zIG
  ·simp only [Int.lt_irrefl,decide_false,zAK,if_false]
  ·intro i h h'
   have hi:(i:Int)<a.length:=by omega
   have h0:(0:Int)≤i:=by omega
   have b1:=hb _ (List.getElem_mem h)
   have hq1:=q282 a[i].2.1 b[i].2.1 b1.1
   have hq2:=q282 a[i].2.2 b[i].2.2 b1.2
   simp (discharger:=omega) only [hi,hl.symm,h0,decide_true,zAJ,if_true,zAG,Int.toNat_natCast,zAL,hq1,hq2,zAB,zAS,zAE,zAo,wI]
   generalize a[i]=x
   generalize b[i]=y
   obtain ⟨x0,x1,x2⟩:=x;obtain ⟨y0,y1,y2⟩:=y
   by_cases e0:x0=y0 <;> by_cases e1:x1=y1 <;> by_cases e2:x2=y2 <;> simp (discharger:=omega) only [e0,e1,e2,Prod.mk.injEq,if_true,if_false,and_true,and_false,zAC,zAH,true_and,false_and,wI] <;> rfl
 ·rw [if_neg hl]
  have:a≠b:=fun h=>hl (by rw [h])
  simp [this]
theorem zVW {p q:Prop} [Decidable p] [Decidable q]:(if p then some (decide q) else some false:Option Bool)=some (decide (p∧q)):=by by_cases h:p <;> simp [h]
theorem q153 (x y:Mth) (h:bMth x):F153 (x,y)=some (decide (x=y)):=by
 obtain ⟨a0,a1,a2,a3,a4,a5,a6,a7⟩:=x;obtain ⟨b0,b1,b2,b3,b4,b5,b6,b7⟩:=y
 obtain ⟨h1,h2,h3,h4⟩:=h
 simp only at h1 h2 h3 h4
 simp only [F153,q228 a7 b7 h3 h4,zAS,zAE,zAo,zAH,zAC,Prod.mk.injEq]
 by_cases e0:a0=b0
 ·by_cases e1:a1=b1
  ·by_cases e2:a2=b2
   ·by_cases e3:a3=b3
    ·by_cases e4:a4=b4
     ·by_cases e5:a5=b5
      ·by_cases hl:(a6.length:Int)=b6.length
       ·have hl':a6.length=b6.length:=by omega
        simp only [e0,e1,e2,e3,e4,e5,hl,if_true,true_and]
        refine (zBY (fun i=>((i:Int),(b0,b1,b2,b3,b4,b5,a6,a7),b0,b1,b2,b3,b4,b5,b6,b7)) ((b0,b1,b2,b3,b4,b5,a6,a7),b0,b1,b2,b3,b4,b5,b6,b7) false a6 b6 hl' rfl ?_ ?_).trans ?_
        ·simp only [Int.lt_irrefl,if_false]
        ·intro i h h'
         have hi:(i:Int)<a6.length:=by omega
         have h0:(0:Int)≤i:=by omega
         simp (discharger:=omega) only [hi,hl.symm,h0,decide_true,zAJ,if_true,zAG,Int.toNat_natCast,zAL,row4,zAE,wI]
         rfl
        ·simp only [q228 a7 b7 h3 h4,zAB]
         exact zVW
       ·have:a6≠b6:=fun h=>hl (by rw [h])
        simp [*]
      ·simp [*]
     ·simp [*]
    ·simp [*]
   ·simp [*]
  ·simp [*]
 ·simp [*]
theorem q70 (x y:Cls) (h:bCls x):F70 (x,y)=some (decide (x=y)):=by
 obtain ⟨a0,a1,a2,a3,a4,a5,a6⟩:=x;obtain ⟨b0,b1,b2,b3,b4,b5,b6⟩:=y
 obtain ⟨⟨h1,_⟩,h2,h3,h4,h5⟩:=h
 simp only at h1 h2 h3 h4 h5
 simp only [F70,q152 a0 b0 h1,zAB,zAS,zAE,zAo,zAH,zAC,Prod.mk.injEq]
 by_cases e0:a0=b0
 ·by_cases e1:a1=b1
  ·by_cases e2:a2=b2
   ·by_cases e3:a3=b3
    ·by_cases l4:(a4.length:Int)=b4.length
     ·by_cases l5:(a5.length:Int)=b5.length
      ·by_cases l6:(a6.length:Int)=b6.length
       ·have l4':a4.length=b4.length:=by omega
        have l5':a5.length=b5.length:=by omega
        have l6':a6.length=b6.length:=by omega
        simp only [e0,e1,e2,e3,l4,l5,l6,if_true,true_and]
        refine (zBY (fun i=>((i:Int),(b0,b1,b2,b3,a4,a5,a6),b0,b1,b2,b3,b4,b5,b6)) ((b0,b1,b2,b3,a4,a5,a6),b0,b1,b2,b3,b4,b5,b6) false a4 b4 l4' rfl ?_ ?_).trans ?_
        ·simp only [Int.lt_irrefl,if_false]
        ·intro i h h'
         have hi:(i:Int)<a4.length:=by omega
         have h0:(0:Int)≤i:=by omega
         simp (discharger:=omega) only [hi,l4.symm,h0,decide_true,zAJ,if_true,zAG,Int.toNat_natCast,zAL,zAE,wI]
         rfl
        refine Eq.trans ?_ zVW
        by_cases e4:a4=b4
        ·rw [if_pos e4,if_pos e4]
         simp only
         refine (zBY (fun i=>((i:Int),(b0,b1,b2,b3,a4,a5,a6),b0,b1,b2,b3,b4,b5,b6)) ((b0,b1,b2,b3,a4,a5,a6),b0,b1,b2,b3,b4,b5,b6) false a5 b5 l5' rfl ?_ ?_).trans ?_
         ·simp only [Int.lt_irrefl,if_false]
         ·intro i h h'
          have hi:(i:Int)<a5.length:=by omega
          have h0:(0:Int)≤i:=by omega
          simp (discharger:=omega) only [hi,l5.symm,h0,decide_true,zAJ,if_true,zAG,Int.toNat_natCast,zAL,row3,zAE,wI]
          rfl
         refine Eq.trans ?_ zVW
         by_cases e5:a5=b5
         ·rw [if_pos e5,if_pos e5]
          simp only
          refine (zBY (fun i=>((i:Int),(b0,b1,b2,b3,a4,a5,a6),b0,b1,b2,b3,b4,b5,b6)) () false a6 b6 l6' rfl ?_ ?_).trans zIG
          ·simp only [Int.lt_irrefl,if_false]
          ·intro i h h'
           have hi:(i:Int)<a6.length:=by omega
           have h0:(0:Int)≤i:=by omega
           have hq:=q153 a6[i] b6[i] (h5 _ (List.getElem_mem h))
           simp (discharger:=omega) only [hi,l6.symm,h0,decide_true,zAJ,if_true,zAG,Int.toNat_natCast,zAL,hq,zAB,zAE,wI]
           rfl
         ·rw [if_neg e5,if_neg e5]
        ·rw [if_neg e4,if_neg e4]
       ·have:a6≠b6:=fun h=>l6 (by rw [h])
        simp [*]
      ·have:a5≠b5:=fun h=>l5 (by rw [h])
       simp [*]
     ·have:a4≠b4:=fun h=>l4 (by rw [h])
      simp [*]
    ·simp [*]
   ·simp [*]
  ·simp [*]
 ·simp [*]
end Go.Proofs.YtdpapeledldifaaGreat
namespace Go.TM
open Go.AM
section
variable {α X Y R:Type}
theorem zNL {f:X→Option (X ⊕ (Y ⊕ R))} (mk:Nat→X) (fin:Y) (no:R) (l:List α) (p:α→Bool) {x0:X} (hx:x0=mk 0) {k:Y→Option R}
  (hend:f (mk l.length)=some (.inr (.inl fin)))
  (hstep:∀ i (h:i<l.length),f (mk i)=if p l[i]=true then some (.inl (mk (i+1))) else some (.inr (.inr no))) :
  bindE (zAF f x0) k=if l.all p=true then k fin else some no:=by
 have key:∀ (m i:Nat),i+m=l.length→zAF f (mk i)=some (if (l.drop i).all p=true then .inl fin else .inr no):=by
  intro m
  induction m with
  | zero =>
    intro i hi
    have:i=l.length:=by omega
    subst this
    rw [zAk,hend,List.drop_eq_nil_of_le (Nat.le_refl _)]
    rfl
  | succ m ih =>
    intro i hi
    have h:i<l.length:=by omega
    rw [zAk,hstep i h,zBT h,List.all_cons]
    cases hp:p l[i]
    ·simp
    ·simp only [if_true,Bool.true_and]
     exact ih (i+1) (by omega)
 rw [hx,key l.length 0 (by omega),List.drop_zero]
 by_cases h:l.all p=true
 ·simp only [h,if_true,zAC]
 ·simp only [h,if_false,zAH,Bool.false_eq_true]
end
end Go.TM
namespace Go.Proofs.YtdpapeledldifaaGreat
open Go Go.AM Go.TM
def smF (f:Frm):Bool:=decide (f.2.1.length≤8) && decide (f.2.2.length≤8)
def smM (m:Mth):Bool:=decide (m.2.2.2.2.2.1.length≤120) && (decide (m.2.2.2.2.2.2.1.length≤3) && (decide (m.2.2.2.2.2.2.2.length≤8) && m.2.2.2.2.2.2.2.all smF))
def sm (c:Cls):Bool:=decide (few c) && (c.1.all (fun x=>decide (x.2.1.length≤255)) && c.2.2.2.2.2.2.all smM)
theorem q66 (c:Cls) (h:bCls c):F66 c=some (sm c):=by
 obtain ⟨c0,c1,c2,c3,c4,c5,c6⟩:=c
 obtain ⟨⟨a1,a2⟩,a3,a4,a5,a6⟩:=h
 simp only at a1 a2 a3 a4 a5 a6
 simp only [F66,zAE,zAo,zAH,zAC]
 by_cases f1:(60:Int)<c0.length
 ·have:¬ few (c0,c1,c2,c3,c4,c5,c6):=fun h=>by have:=h.1;simp only at this;omega
  simp [f1,sm,this]
 by_cases f2:(3:Int)<c4.length
 ·have:¬ few (c0,c1,c2,c3,c4,c5,c6):=fun h=>by have:=h.2.1;simp only at this;omega
  simp [f1,f2,sm,this]
 by_cases f3:(5:Int)<c5.length
 ·have:¬ few (c0,c1,c2,c3,c4,c5,c6):=fun h=>by have:=h.2.2.1;simp only at this;omega
  simp [f1,f2,f3,sm,this]
 by_cases f4:(6:Int)<c6.length
 ·have:¬ few (c0,c1,c2,c3,c4,c5,c6):=fun h=>by have:=h.2.2.2;simp only at this;omega
  simp [f1,f2,f3,f4,sm,this]
 have hf:few (c0,c1,c2,c3,c4,c5,c6):=⟨by simp only;omega,by simp only;omega,by simp only;omega,by simp only;omega⟩
 simp only [f1,f2,f3,f4,if_false,sm,hf,decide_true,Bool.true_and]
 refine (zNL (fun i=>(c0,(c0.length:Int),(i:Int),c0,c1,c2,c3,c4,c5,c6)) (c0,c1,c2,c3,c4,c5,c6) false c0 (fun x=>decide (x.2.1.length≤255)) rfl ?_ ?_).trans ?_
 ·simp only [Int.lt_irrefl,if_false]
 ·intro i h
  have hi:(i:Int)<c0.length:=by omega
  have h0:(0:Int)≤i:=by omega
  simp (discharger:=omega) only [hi,h0,decide_true,if_true,zAG,Int.toNat_natCast,zAL,zAE,wI,decide_eq_true_eq]
  by_cases hx:(255:Int)<c0[i].2.1.length
  ·rw [if_pos hx,if_neg (by omega)]
  ·rw [if_neg hx,if_pos (by omega)];rfl
 by_cases hp:(c0.all fun x=>decide (x.2.1.length≤255))=true
 ·rw [if_pos hp,hp]
  simp only [Bool.true_and]
  refine (zNL (fun i=>(c6,(c6.length:Int),(i:Int))) () false c6 smM rfl ?_ ?_).trans ?_
  ·simp only [Int.lt_irrefl,if_false]
  ·intro i h
   have hi:(i:Int)<c6.length:=by omega
   have h0:(0:Int)≤i:=by omega
   have hb:=a6 _ (List.getElem_mem h)
   simp (discharger:=omega) only [hi,h0,decide_true,if_true,zAG,Int.toNat_natCast,zAL,zAE,wI,zAo,zAH,zAC]
   generalize c6[i]=m at hb
   obtain ⟨m0,m1,m2,m3,m4,m5,m6,m7⟩:=m
   obtain ⟨b1,b2,b3,b4⟩:=hb
   simp only at b1 b2 b3 b4 ⊢
   by_cases g1:(120:Int)<m5.length
   ·have:¬ m5.length≤120:=by omega
    simp [g1,smM,this]
   by_cases g2:(3:Int)<m6.length
   ·have:¬ m6.length≤3:=by omega
    simp [g1,g2,smM,this]
   by_cases g3:(8:Int)<m7.length
   ·have:¬ m7.length≤8:=by omega
    simp [g1,g2,g3,smM,this]
   simp only [g1,g2,g3,if_false,smM,show m5.length≤120 by omega,show m6.length≤3 by omega,show m7.length≤8 by omega,decide_true,Bool.true_and]
   refine (congrArg (bindE · _) (zNL (fun j=>(c6,(c6.length:Int),(i:Int),m7,(m7.length:Int),(j:Int))) (c6,(c6.length:Int),(i:Int)) (.inr (.inr (.inr false))) m7 smF rfl ?_ ?_)).trans ?_
   ·simp only [Int.lt_irrefl,if_false]
   ·intro j h
    have hj:(j:Int)<m7.length:=by omega
    have h0:(0:Int)≤j:=by omega
    simp (discharger:=omega) only [hj,h0,decide_true,if_true,zAG,Int.toNat_natCast,zAL,zAo,zAH,zAC,wI]
    generalize m7[j]=fr
    by_cases u1:(8:Int)<fr.2.1.length
    ·have:¬ fr.2.1.length≤8:=by omega
     simp [u1,smF,this]
    by_cases u2:(8:Int)<fr.2.2.length
    ·have:¬ fr.2.2.length≤8:=by omega
     simp [u1,u2,smF,this]
    simp only [u1,u2,if_false,smF,show fr.2.1.length≤8 by omega,show fr.2.2.length≤8 by omega,decide_true,Bool.true_and,if_true]
    rfl
   ·by_cases hq:m7.all smF=true
    ·simp (discharger:=omega) only [hq,if_true,zAC,wI];rfl
    ·simp only [hq,if_false,zAH,Bool.false_eq_true]
  ·by_cases hq:c6.all smM=true <;> simp [hq]
 ·rw [if_neg hp]
  simp only [Bool.not_eq_true] at hp
  rw [hp];rfl
theorem sm_few {c:Cls} (h:sm c=true):few c:=by
 simp only [sm,Bool.and_eq_true,decide_eq_true_eq] at h;exact h.1
theorem sm_fit {c:Cls} (h:fCls c):sm c=true:=by
 obtain ⟨h0,h1,_,_,_,_,_,h7⟩:=h
 simp only [sm,Bool.and_eq_true,decide_eq_true_eq,List.all_eq_true]
 refine ⟨h0,fun x hx=>(h1 x hx).2.1,fun m hm=>?_⟩
 obtain ⟨_,_,_,_,_,g1,⟨g2,_⟩,g3,g4⟩:=h7 m hm
 simp only [smM,smF,Bool.and_eq_true,decide_eq_true_eq,List.all_eq_true]
 exact ⟨g1,g2,g3,fun f hf=>⟨(g4 f hf).2.1.1,(g4 f hf).2.2.1⟩⟩
noncomputable def put (c:Cls):List UInt8:=by
 classical
 exact if fCls c∧(pCls tI abI c).length≤900∧gCls (pCls tI abI c)=some (c,[]) then pCls tI abI c else []
theorem zRC {c:Cls} (h:fCls c∧(pCls tI abI c).length≤900∧gCls (pCls tI abI c)=some (c,[])):put c=pCls tI abI c:=by
 unfold put;rw [if_pos h]
theorem zES {c:Cls} (h:¬ (fCls c∧(pCls tI abI c).length≤900∧gCls (pCls tI abI c)=some (c,[]))):put c=[]:=by
 unfold put;rw [if_neg h]
theorem put20 (c:Cls) (h:bCls c):F20 c=some (put c):=by
 obtain ⟨c0,c1,c2,c3,c4,c5,c6⟩:=c
 simp only [F20,q66 _ h,zAB,zAS]
 cases hs:sm (c0,c1,c2,c3,c4,c5,c6) with
 | false =>
   rw [zAK,zES]
   intro hh
   rw [sm_fit hh.1] at hs
   cases hs
 | true =>
   rw [zAJ,p67 _ h (sm_few hs)]
   simp only [zAB]
   by_cases hl:(pCls tI abI (c0,c1,c2,c3,c4,c5,c6)).length≤900
   ·have hg:=i17 _ hl
    unfold zED at hg
    rw [hg]
    cases hc:gCls (pCls tI abI (c0,c1,c2,c3,c4,c5,c6)) with
    | none =>
      simp only [zAB,zAK]
      rw [zES]
      rintro ⟨_,_,h3⟩
      rw [hc] at h3;cases h3
    | some p =>
      obtain ⟨d,r⟩:=p
      cases r with
      | cons x r =>
        simp only [zAB,zAK]
        rw [zES]
        rintro ⟨_,_,h3⟩
        rw [hc] at h3;cases h3
      | nil =>
        obtain ⟨d0,d1,d2,d3,d4,d5,d6⟩:=d
        simp only [zAB,zAJ]
        rw [q68 _ _ h,zAB,zAE]
        by_cases he:(c0,c1,c2,c3,c4,c5,c6)=(d0,d1,d2,d3,d4,d5,d6)
        ·rw [if_pos he,zRC]
         refine ⟨?_,hl,?_⟩
         ·rw [he];exact zMx _ _ _ hc
         ·rw [hc,he]
        ·rw [if_neg he,zES]
         rintro ⟨_,_,h3⟩
         rw [hc] at h3
         simp only [Option.some.injEq,Prod.mk.injEq] at h3
         exact he (by simp only [Prod.mk.injEq];obtain ⟨⟨k0,k1,k2,k3,k4,k5,k6⟩,_⟩:=h3;exact ⟨k0.symm,k1.symm,k2.symm,k3.symm,k4.symm,k5.symm,k6.symm⟩)
   ·have hn:(900:Int)<((pCls tI abI (c0,c1,c2,c3,c4,c5,c6)).length:Int):=by omega
    simp only [F17,hn,decide_true,zAJ,zAB,zAK]
    rw [zES]
    rintro ⟨_,h2,_⟩
    exact hl h2
theorem few69 (c:Cls):F69 c=some (decide (few c)):=by
 obtain ⟨c0,c1,c2,c3,c4,c5,c6⟩:=c
 have hf:few (c0,c1,c2,c3,c4,c5,c6)↔(c0.length≤60∧c4.length≤3∧c5.length≤5∧c6.length≤6):=Iff.rfl
 simp only [F69,zAE]
 repeat' split
 all_goals
  rw [Option.some.injEq,Bool.eq_iff_iff,decide_eq_true_iff (p:=few _),hf]
  first
   | (rw [decide_eq_true_iff];omega)
   | (constructor <;> intro hh <;> first | omega | cases hh)
end Go.Proofs.YtdpapeledldifaaGreat
end
section
namespace Go.Proofs.YtdpapeledldifaaGreat
open Go Go.AM Go.TM
theorem zVn {c:Cls} (h:fCls c):few c:=h.1
theorem fit_b {c:Cls} (h:fCls c):bCls c:=by
 obtain ⟨⟨f1,f2,f3,f4⟩,h1,_,_,_,_,_,h7⟩:=h
 refine ⟨⟨by omega,fun x hx=>?_⟩,by omega,by omega,by omega,fun m hm=>?_⟩
 ·have:=(h1 x hx).2.1
  simp only [bCst];omega
 ·obtain ⟨_,_,_,_,_,g1,⟨g2,_⟩,g3,g4⟩:=h7 m hm
  refine ⟨by omega,by omega,by omega,fun f hf=>?_⟩
  obtain ⟨_,⟨k1,_⟩,⟨k2,_⟩⟩:=g4 f hf
  simp only [bFrm,zGX];omega
theorem get63 (l:List UInt8) (hl:l.length≤900):∃ b c,F63 l=some (b,c)∧(b=true→gCls l=some (c,[])∧pCls tS abS c=l)∧(∀ c',gCls l=some (c',[])→pCls tS abS c'=l→b=true):=by
 have hn:¬ ((900:Int)<(l.length:Int)):=by omega
 simp only [F63,hn,decide_false,zAK]
 obtain ⟨v,⟨s1,s2,s3⟩,e1,⟨r1,r2,r3,_,r5,r6⟩,e3⟩:=s142 (s0:=l) (l,0,false) (some l) ⟨rfl,by simp,by simp,hl,(fun h=>by cases h),fun l' h=>by
  simp only [Option.some.injEq] at h;exact ⟨rfl,by rw [← h];rfl⟩⟩
 rw [e1]
 obtain ⟨y,y1,y2,y3,y4,y5,x⟩:=v
 simp only [zAB]
 simp only at r1 r2 r3 r5 r6
 subst r1
 cases hb:gCls s1 with
 | none =>
   have:s3=true:=r5 (by rw [Option.bind_some,hb];rfl)
   subst this
   exact ⟨_,_,rfl,(fun h=>by cases h),fun c' h=>by cases h⟩
 | some p =>
   obtain ⟨c,r⟩:=p
   obtain ⟨h3,h4⟩:=r6 r (by rw [Option.bind_some,hb];rfl)
   have hv:=e3 c r (by rw [Option.bind_some,hb])
   subst h3
   simp only [zAK,zAS,zAE]
   by_cases hs:s2=(s1.length:Int)
   ·have hr:r=[]:=by rw [h4];exact List.drop_eq_nil_of_le (by omega)
    subst hr
    rw [if_pos hs]
    have hf:fCls (y,y1,y2,y3,y4,y5,x):=by rw [hv];exact zMx _ _ _ hb
    rw [p55 _ (fit_b hf) (zVn hf)]
    simp only [zAB]
    by_cases hw:pCls tS abS (y,y1,y2,y3,y4,y5,x)=s1
    ·rw [if_pos hw]
     exact ⟨_,_,rfl,(fun _=>⟨by rw [hv],hw⟩),fun _ _ _=>rfl⟩
    ·rw [if_neg hw]
     refine ⟨_,_,rfl,(fun h=>by cases h),fun c' h1 h2=>?_⟩
     simp only [Option.some.injEq,Prod.mk.injEq,and_true] at h1
     rw [hv,h1] at hw
     exact absurd h2 hw
   ·rw [if_neg hs]
    refine ⟨_,_,rfl,(fun h=>by cases h),fun c' h1 h2=>?_⟩
    simp only [Option.some.injEq,Prod.mk.injEq] at h1
    have hr:r=[]:=h1.2
    rw [hr] at h4
    have:=congrArg List.length h4
    simp only [List.length_nil,List.length_drop] at this
    omega
theorem put22 (c:Cls) (h:bCls c):F22 c=some (put c):=by
 obtain ⟨c0,gc1,gc2,gc3,gc4,gc5,gc6⟩:=c
 simp only [F22,few69,zAB,zAS,zAE]
 by_cases hf:few (c0,gc1,gc2,gc3,gc4,gc5,gc6)
 ·rw [if_pos hf,p55 _ h hf]
  simp only [zAB]
  by_cases hl:(pCls tS abS (c0,gc1,gc2,gc3,gc4,gc5,gc6)).length≤900
  ·obtain ⟨b,d,e,h1,h2⟩:=get63 _ hl
   rw [e]
   obtain ⟨d0,d1,d2,d3,d4,d5,d6⟩:=d
   simp only [zAB]
   cases b with
   | false =>
     rw [zAK,zES]
     rintro ⟨q1,q2,q3⟩
     rw [← zQE _ q1] at q3
     cases h2 _ q3 rfl
   | true =>
     obtain ⟨g1,g2⟩:=h1 rfl
     have hd:=zMx _ _ _ g1
     rw [zAJ,q70 _ _ (fit_b hd),zAB,zAE]
     by_cases he:(d0,d1,d2,d3,d4,d5,d6)=(c0,gc1,gc2,gc3,gc4,gc5,gc6)
     ·rw [if_pos he]
      rw [he] at hd g1
      have:=zQE _ hd
      rw [zRC,this]
      rw [this] at g1 hl
      exact ⟨hd,hl,g1⟩
     ·rw [if_neg he,zES]
      rintro ⟨q1,q2,q3⟩
      rw [← zQE _ q1] at q3
      rw [q3] at g1
      simp only [Option.some.injEq,Prod.mk.injEq] at g1 he
      obtain ⟨⟨k0,k1,k2,k3,k4,k5,k6⟩,_⟩:=g1
      exact he ⟨k0.symm,k1.symm,k2.symm,k3.symm,k4.symm,k5.symm,k6.symm⟩
  ·have hn:(900:Int)<((pCls tS abS (c0,gc1,gc2,gc3,gc4,gc5,gc6)).length:Int):=by omega
   simp only [F63,hn,decide_true,zAJ,zAB,zAK]
   rw [zES]
   rintro ⟨q1,q2,q3⟩
   rw [← zQE _ q1] at q2
   exact hl q2
 ·rw [if_neg hf,zES]
  exact fun hh=>hf hh.1.1
end Go.Proofs.YtdpapeledldifaaGreat
end
section
namespace Go.Stow
def cut (c:UInt8):List UInt8→Option (List UInt8×List UInt8)
 | []=>none
 | x :: l=>if x=c then some ([],l) else (cut c l).map fun p=>(x :: p.1,p.2)
theorem zFv {c:UInt8}:∀ {l a b:List UInt8},cut c l=some (a,b)→l=a++c :: b∧c ∉ a
 | [],a,b,h=>by cases h
 | x :: l,a,b,h=>by
   unfold cut at h
   by_cases hx:x=c
   ·rw [if_pos hx] at h
    simp only [Option.some.injEq,Prod.mk.injEq] at h
    obtain ⟨rfl,rfl⟩:=h
    exact ⟨by rw [hx];rfl,by simp⟩
   ·rw [if_neg hx] at h
    cases hc:cut c l with
    | none=>rw [hc] at h;cases h
    | some p =>
      obtain ⟨a',b'⟩:=p
      rw [hc] at h
      simp only [Option.map_some,Option.some.injEq,Prod.mk.injEq] at h
      obtain ⟨rfl,rfl⟩:=h
      obtain ⟨h1,h2⟩:=zFv hc
      exact ⟨by rw [h1];rfl,by simp only [List.mem_cons,not_or];exact ⟨fun h=>hx h.symm,h2⟩⟩
theorem zHO {c:UInt8}:∀ {l:List UInt8},cut c l=none↔c ∉ l
 | []=>by simp [cut]
 | x :: l=>by
   unfold cut
   by_cases hx:x=c
   ·rw [if_pos hx];simp [hx]
   ·rw [if_neg hx]
    simp only [Option.map_eq_none_iff,zHO,List.mem_cons,not_or]
    exact ⟨fun h=>⟨fun h=>hx h.symm,h⟩,fun h=>h.2⟩
theorem cut_at {c:UInt8}:∀ {a b:List UInt8},c ∉ a→cut c (a++c :: b)=some (a,b)
 | [],b,_=>by simp [cut]
 | x :: a,b,h=>by
   simp only [List.mem_cons,not_or] at h
   rw [List.cons_append]
   unfold cut
   rw [if_neg fun e=>h.1 e.symm,cut_at h.2]
   rfl
def let1 (b:UInt8):Prop:=(97≤b.toNat∧b.toNat≤122)∨(65≤b.toNat∧b.toNat≤90)
def dig1 (b:UInt8):Prop:=48≤b.toNat∧b.toNat≤57
def Nm (s:List UInt8):Prop:=(1≤s.length∧s.length≤8)∧∀ i (h:i<s.length),let1 s[i]∨(i≠0∧dig1 s[i])
noncomputable instance (s:List UInt8):Decidable (Nm s):=Classical.propDecidable _
theorem Nm.mem {s:List UInt8} (h:Nm s) {b:UInt8} (hb:b∈s):let1 b∨dig1 b:=by
 obtain ⟨i,hi,rfl⟩:=List.mem_iff_getElem.1 hb
 rcases h.2 i hi with h | h
 ·exact .inl h
 ·exact .inr h.2
theorem Nm.no {s:List UInt8} (h:Nm s) (b:UInt8) (hb:¬ (let1 b∨dig1 b)):b ∉ s:=fun hm=>hb (h.mem hm)
theorem no41:¬ (let1 41∨dig1 41):=by simp [let1,dig1]
theorem no59:¬ (let1 59∨dig1 59):=by simp [let1,dig1]
theorem Nm.ne {s:List UInt8} (h:Nm s):s≠[]:=by rintro rfl;exact absurd h.1.1 (by simp)
theorem zGO:¬ Nm []:=fun h=>h.ne rfl
def Tok (t:List UInt8):Prop:=t=[73]∨∃ n,Nm n∧t=76 :: (n++[59])
noncomputable instance (s:List UInt8):Decidable (Tok s):=Classical.propDecidable _
theorem Tok.no41 {t:List UInt8} (h:Tok t):(41:UInt8) ∉ t:=by
 rcases h with rfl | ⟨n,hn,rfl⟩
 ·simp
 ·have:=hn.no 41 Stow.no41
  simp [this]
theorem zDG:¬ Tok []:=by
 rintro (h | ⟨n,_,h⟩) <;> cases h
noncomputable def one:List UInt8→Option (List UInt8×List UInt8)
 | []=>none
 | x :: r=>if x=73 then some ([73],r) else if x=76 then (cut 59 r).bind fun p=>if Nm p.1 then some (76 :: (p.1++[59]),p.2) else none else none
theorem zMh (x:UInt8) (r:List UInt8):one (x :: r)=if x=73 then some ([73],r) else if x=76 then (cut 59 r).bind fun p=>if Nm p.1 then some (76 :: (p.1++[59]),p.2) else none else none:=rfl
theorem zCB {l t r:List UInt8} (h:one l=some (t,r)):l=t++r∧Tok t:=by
 cases l with
 | nil=>cases h
 | cons x l =>
   rw [zMh] at h
   by_cases h1:x=73
   ·rw [if_pos h1] at h
    simp only [Option.some.injEq,Prod.mk.injEq] at h
    obtain ⟨rfl,rfl⟩:=h
    exact ⟨by rw [h1];rfl,.inl rfl⟩
   ·rw [if_neg h1] at h
    by_cases h2:x=76
    ·rw [if_pos h2] at h
     cases hc:cut 59 l with
     | none=>rw [hc] at h;cases h
     | some p =>
       obtain ⟨n,b⟩:=p
       rw [hc,Option.bind_some] at h
       by_cases hn:Nm n
       ·rw [if_pos hn] at h
        simp only [Option.some.injEq,Prod.mk.injEq] at h
        obtain ⟨rfl,rfl⟩:=h
        obtain ⟨e,_⟩:=zFv hc
        exact ⟨by rw [h2,e];simp,.inr ⟨n,hn,rfl⟩⟩
       ·rw [if_neg hn] at h;cases h
    ·rw [if_neg h2] at h;cases h
theorem zMf {t:List UInt8} (h:Tok t) (r:List UInt8):one (t++r)=some (t,r):=by
 rcases h with rfl | ⟨n,hn,rfl⟩
 ·rfl
 ·rw [List.cons_append,zMh,if_neg (by decide),if_pos rfl]
  have:(n++[59])++r=n++59 :: r:=by simp
  rw [this,cut_at (hn.no 59 no59),Option.bind_some,if_pos hn]
theorem zMg {l:List UInt8}:one l=none↔∀ t r,l=t++r→¬ Tok t:=by
 constructor
 ·intro h t r e ht
  rw [e,zMf ht] at h
  cases h
 ·intro h
  cases ho:one l with
  | none=>rfl
  | some p =>
    obtain ⟨t,r⟩:=p
    obtain ⟨h1,h2⟩:=zCB ho
    exact absurd h2 (h t r h1)
theorem zUE {s:List UInt8}:Tok s↔one s=some (s,[]):=by
 constructor
 ·intro h
  have:=zMf h []
  rwa [List.append_nil] at this
 ·intro h
  exact (zCB h).2
noncomputable def more:Nat→List UInt8→Option (List (List UInt8)×List UInt8)
 | _,[]=>none
 | 0,x :: l=>if x=41 then some ([],l) else none
 | k+1,x :: l=>if x=41 then some ([],l) else (one (x :: l)).bind fun p=>(more k p.2).map fun q=>(p.1 :: q.1,q.2)
noncomputable def mr:Nat→List UInt8→Option (List (List UInt8))
 | _,[]=>some []
 | 0,_ :: _=>none
 | k+1,x :: l=>(one (x :: l)).bind fun p=>(mr k p.2).map fun q=>p.1 :: q
theorem zFk (k:Nat) (x:UInt8) (l:List UInt8):more (k+1) (x :: l)=if x=41 then some ([],l) else (one (x :: l)).bind fun p=>(more k p.2).map fun q=>(p.1 :: q.1,q.2):=rfl
theorem zVJ (k:Nat) (x:UInt8) (l:List UInt8):mr (k+1) (x :: l)=(one (x :: l)).bind fun p=>(mr k p.2).map fun q=>p.1 :: q:=rfl
theorem one_app {l b:List UInt8} (h:(41:UInt8) ∉ l) (hl:l≠[]):one (l++41 :: b)=(one l).map fun p=>(p.1,p.2++41 :: b):=by
 cases ho:one l with
 | some p =>
   obtain ⟨t,r⟩:=p
   obtain ⟨h1,h2⟩:=zCB ho
   rw [h1,List.append_assoc,zMf h2]
   rfl
 | none =>
   rw [Option.map_none,zMg]
   intro t r e ht
   have h41:=ht.no41
   rw [zMg] at ho
   have hle:t.length≤l.length:=by
    refine Nat.le_of_not_lt fun hlt=>h41 ?_
    have e2:(l++41 :: b)[l.length]? = (t++r)[l.length]?:=by rw [e]
    rw [List.getElem?_append_right (Nat.le_refl _),Nat.sub_self,List.getElem?_append_left hlt] at e2
    exact List.mem_of_getElem? e2.symm
   have e3:l=t++l.drop t.length:=by
    have e4:=congrArg (List.take t.length) e
    rw [List.take_append_of_le_length hle,List.take_append_of_le_length (Nat.le_refl _),List.take_length] at e4
    rw [← e4,List.length_take,Nat.min_eq_left hle,List.take_append_drop]
   exact ho t _ e3 ht
theorem zSj:∀ (k:Nat) (l b:List UInt8),(41:UInt8) ∉ l→more k (l++41 :: b)=(mr k l).map fun q=>(q,b)
 | 0,[],b,_=>by simp [more,mr]
 | _+1,[],b,_=>by simp [more,mr]
 | 0,x :: l,b,h=>by
   have:x≠41:=fun e=>h (by simp [e])
   simp [more,mr,this]
 | k+1,x :: l,b,h=>by
   have hx:x≠41:=fun e=>h (by simp [e])
   have:=one_app (b:=b) h (by simp)
   rw [List.cons_append] at this ⊢
   rw [zFk,zVJ,if_neg hx,this]
   cases ho:one (x :: l) with
   | none=>rfl
   | some p =>
     obtain ⟨t,r⟩:=p
     obtain ⟨h1,h2⟩:=zCB ho
     have hr:(41:UInt8) ∉ r:=fun hm=>h (by rw [h1];simp [hm])
     show (more k (r++41 :: b)).map _=((mr k r).map _).map _
     rw [zSj k r b hr]
     cases mr k r <;> rfl
theorem zPb:∀ (k:Nat) (l:List UInt8),(41:UInt8) ∉ l→more k l=none
 | 0,[],_=>by simp [more]
 | _+1,[],_=>by simp [more]
 | 0,x :: l,h=>by
   have:x≠41:=fun e=>h (by simp [e])
   simp [more,this]
 | k+1,x :: l,h=>by
   have hx:x≠41:=fun e=>h (by simp [e])
   rw [zFk,if_neg hx]
   cases ho:one (x :: l) with
   | none=>rfl
   | some p =>
     obtain ⟨t,r⟩:=p
     obtain ⟨h1,h2⟩:=zCB ho
     have hr:(41:UInt8) ∉ r:=fun hm=>h (by rw [h1];simp [hm])
     simp only [Option.bind_some,zPb k r hr,Option.map_none]
noncomputable def dsc (s:List UInt8):List (List UInt8)×List UInt8×Bool :=
 match s with
 | []=>([],[],false)
 | x :: l=>if x=40 then
   match more 4 l with
   | none=>([],[],false)
   | some (ts,back)=>if back=[86]∨Tok back then (ts,back,true) else ([],[],false)
   else ([],[],false)
def Dsc (s:List UInt8):Prop:=(dsc s).2.2=true
noncomputable instance (s:List UInt8):Decidable (Dsc s):=Classical.propDecidable _
theorem zFN:¬ Dsc []:=by simp [Dsc,dsc]
abbrev Ent:=Int×List UInt8×Int×Int
def zAU (p:List Ent) (i:Int):Ent:=if 1≤i∧i≤p.length then p[(i - 1).toNat]?.getD (0,[],0,0) else (0,[],0,0)
def zAu (p:List Ent) (i:Int) (Q:List UInt8→Prop):Prop:=(zAU p i).1=1∧Q (zAU p i).2.1
noncomputable instance (p:List Ent) (i:Int) (Q:List UInt8→Prop):Decidable (zAu p i Q):=Classical.propDecidable _
def zBS (p:List Ent) (i:Int):Prop:=(zAU p i).1=2∧zAu p (zAU p i).2.2.1 Nm
noncomputable instance (p:List Ent) (i:Int):Decidable (zBS p i):=Classical.propDecidable _
noncomputable def clsN (p:List Ent) (i:Int):List UInt8:=if zBS p i then (zAU p (zAU p i).2.2.1).2.1 else []
def txt (p:List Ent) (i:Int):List UInt8:=if (zAU p i).1=1 then (zAU p i).2.1 else []
theorem zDL {p:List Ent} {i:Int}:clsN p i≠[]↔zBS p i:=by
 unfold clsN
 constructor
 ·intro h
  by_cases hc:zBS p i
  ·exact hc
  ·rw [if_neg hc] at h;exact absurd rfl h
 ·intro h
  rw [if_pos h]
  exact h.2.2.ne
theorem zGZ {p:List Ent} {i:Int} {Q:List UInt8→Prop} (h0:¬ Q []):Q (txt p i)↔zAu p i Q:=by
 unfold txt zAu
 by_cases h:(zAU p i).1=1
 ·rw [if_pos h];simp [h]
 ·rw [if_neg h];simp [h,h0]
def zNM (s:List UInt8):Prop:=Tok s∨Dsc s
theorem zMj:¬ zNM []:=by
 rintro (h | h)
 ·exact zDG h
 ·exact zFN h
def zCk (p:List Ent) (x:Ent):Prop :=
 if x.1=1 then x.2.2.1=0∧x.2.2.2=0∧(Nm x.2.1∨zNM x.2.1)
 else if x.1=2 then x.2.1=[]∧x.2.2.2=0∧zAu p x.2.2.1 Nm
 else if x.1=3 then x.2.1=[]∧zAu p x.2.2.1 Nm∧zAu p x.2.2.2 zNM
 else if x.1=4 then x.2.1=[]∧zBS p x.2.2.1∧(zAU p x.2.2.2).1=3∧zAu p (zAU p x.2.2.2).2.2.2 Tok
 else if x.1=5∨x.1=6 then x.2.1=[]∧zBS p x.2.2.1∧(zAU p x.2.2.2).1=3∧zAu p (zAU p x.2.2.2).2.2.2 Dsc
 else False
noncomputable instance (p:List Ent) (x:Ent):Decidable (zCk p x):=Classical.propDecidable _
theorem zVq {p:List Ent} {i:Nat} (h:i<p.length):zAU p ((i:Int)+1)=p[i]:=by
 unfold zAU
 rw [if_pos ⟨by omega,by omega⟩,show ((i:Int)+1 - 1).toNat=i by omega,List.getElem?_eq_getElem h]
 rfl
theorem zVp {p:List Ent} {i:Int} (h:(zAU p i).1≠0):∃ k,∃ _:k<p.length,zAU p i=p[k]:=by
 unfold zAU at h ⊢
 by_cases hi:1≤i∧i≤p.length
 ·rw [if_pos hi] at h ⊢
  exact ⟨(i - 1).toNat,by omega,by rw [List.getElem?_eq_getElem (by omega)];rfl⟩
 ·rw [if_neg hi] at h;exact absurd rfl h
def zJT (p:List Ent):Prop:=∀ i (h:i<p.length),zCk p p[i]
noncomputable def zBl (p:List Ent):Nat→Nat→Int
 | 0,_=>0
 | m+1,i=>if h:i<p.length then if zCk p p[i] then zBl p m (i+1) else (i:Int)+1 else 0
theorem zSc {p:List Ent}:∀ (m i:Nat),i+m=p.length→(zBl p m i=0↔∀ j,i≤j→∀ h:j<p.length,zCk p p[j])
 | 0,i,hi=>by
   constructor
   ·intro _ j h1 h2;omega
   ·intro _;rfl
 | m+1,i,hi=>by
   have h:i<p.length:=by omega
   unfold zBl
   rw [dif_pos h]
   by_cases he:zCk p p[i]
   ·rw [if_pos he,zSc m (i+1) (by omega)]
    constructor
    ·intro hh j h1 h2
     by_cases hj:j=i
     ·subst hj;exact he
     ·exact hh j (by omega) h2
    ·intro hh j h1 h2;exact hh j (by omega) h2
   ·rw [if_neg he]
    constructor
    ·intro hh;omega
    ·intro hh;exact absurd (hh i (Nat.le_refl _) h) he
theorem pool_ok {p:List Ent}:zBl p p.length 0=0↔zJT p:=by
 rw [zSc p.length 0 (by omega)]
 exact ⟨fun h j hj=>h j (by omega) hj,fun h j _ hj=>h j hj⟩
theorem zJT.cls {p:List Ent} (h:zJT p) {i:Int}:zBS p i↔(zAU p i).1=2:=by
 constructor
 ·exact fun h=>h.1
 ·intro h2
  obtain ⟨k,hk,e⟩:=zVp (p:=p) (i:=i) (by omega)
  have:=h k hk
  rw [← e] at this
  unfold zCk at this
  rw [if_neg (by omega),if_pos h2] at this
  exact ⟨h2,this.2.2⟩
def zAp (p:List Ent) (i:Int):List UInt8:=if (zAU p i).1=2 then (zAU p (zAU p i).2.2.1).2.1 else (zAU p i).2.1
theorem zDH {p:List Ent} {i:Int} (h:zBS p i):zAp p i=clsN p i:=by
 unfold zAp clsN
 rw [if_pos h.1,if_pos h]
theorem zAs {p:List Ent} {i:Int} (h:(zAU p i).1=1):zAp p i=txt p i:=by
 unfold zAp txt
 rw [if_neg (by omega),if_pos h]
abbrev KndP:=Int×Int
abbrev TrpP:=Int×Int×Int×Int
abbrev FrmP:=Int×List KndP×List KndP
abbrev FldP:=Int×Int×Int
abbrev MthP:=Int×Int×Int×Int×Int×List UInt8×List TrpP×List FrmP
abbrev ClsP:=List Ent×Int×Int×Int×List Int×List FldP×List MthP
def has (f k:Int):Prop:=f / k % 2=1
instance (f k:Int):Decidable (has f k):=inferInstanceAs (Decidable (_=_))
def zBx (c:ClsP):Prop :=
 zBS c.1 c.2.2.1∧zBS c.1 c.2.2.2.1∧clsN c.1 c.2.2.2.1≠clsN c.1 c.2.2.1∧(0≤c.2.1∧c.2.1≤7) ∧
 (∀ i,i<c.2.2.2.2.1.length→zBS c.1 (c.2.2.2.2.1.getD i 0)∧∀ k,k<i→clsN c.1 (c.2.2.2.2.1.getD k 0)≠clsN c.1 (c.2.2.2.2.1.getD i 0)) ∧
 ¬ (has c.2.1 2∧has c.2.1 4)∧(has c.2.1 1→has c.2.1 4∧clsN c.1 c.2.2.2.1=[79,98,106])
noncomputable instance (c:ClsP):Decidable (zBx c):=Classical.propDecidable _
def FldOk (c:ClsP) (i:Nat):Prop :=
 let f:=c.2.2.2.2.2.1.getD i (0,0,0)
 zAu c.1 f.2.1 Nm∧zAu c.1 f.2.2 Tok∧(0≤f.1∧f.1≤3)∧(has c.2.1 1→f.1=1)∧∀ k,k<i→txt c.1 (c.2.2.2.2.2.1.getD k (0,0,0)).2.1≠txt c.1 f.2.1
def zDq (c:ClsP):Prop:=∀ i,i<c.2.2.2.2.2.1.length→FldOk c i
noncomputable instance (c:ClsP):Decidable (zDq c):=Classical.propDecidable _
def mth0:MthP:=(0,0,0,0,0,[],[],[])
def zEO (c:ClsP) (m:MthP):Prop :=
 (0≤m.1∧m.1≤15)∧(txt c.1 m.2.1=[98,101,103,105,110]→m.1=1∧txt c.1 m.2.2.1=[40,41,86]) ∧
 (has m.1 8→m.1=8∧has c.2.1 4)∧(¬ has m.1 8→has c.2.1 1→m.1=1)
noncomputable instance (c:ClsP) (m:MthP):Decidable (zEO c m):=Classical.propDecidable _
def MthOk (c:ClsP) (i:Nat):Prop :=
 let m:=c.2.2.2.2.2.2.getD i mth0
 zAu c.1 m.2.1 Nm∧zAu c.1 m.2.2.1 Dsc∧zEO c m ∧
 ∀ k,k<i→¬ (txt c.1 (c.2.2.2.2.2.2.getD k mth0).2.1=txt c.1 m.2.1∧txt c.1 (c.2.2.2.2.2.2.getD k mth0).2.2.1=txt c.1 m.2.2.1)
def zEU (c:ClsP):Prop:=∀ i,i<c.2.2.2.2.2.2.length→MthOk c i
noncomputable instance (c:ClsP):Decidable (zEU c):=Classical.propDecidable _
def argN (op:Int):Int:=if op=1 then 2 else if 3≤op∧op≤6 then 1 else if 14≤op∧op≤29 then 2 else if 0≤op∧op≤34 then 0 else -1
def numB (op:Int):List UInt8→Int
 | []=>0
 | [a]=>a.toNat
 | a :: b :: _=>if op=1∧32768≤(a.toNat:Int)*256+b.toNat then (a.toNat:Int)*256+b.toNat - 65536 else (a.toNat:Int)*256+b.toNat
abbrev InsP:=Int×Int×Int
def opsN:Nat→Int→List UInt8→Option (List InsP)
 | _,_,[]=>some []
 | 0,_,_ :: _=>none
 | k+1,a,x :: l=>if argN x.toNat<0∨(l.length:Int)<argN x.toNat then none
   else (opsN k (a+1+argN x.toNat) (l.drop (argN x.toNat).toNat)).map fun r=>(a,(x.toNat:Int),numB x.toNat (l.take (argN x.toNat).toNat)) :: r
def opsV (s:List UInt8):List InsP×Bool:=match opsN s.length 0 s with
 | some (x :: r)=>(x :: r,true)
 | _=>([],false)
def opI (l:List InsP) (a:Int):Int:=match l.findIdx? (fun x=>decide (x.1=a)) with
 | some j=>j
 | none=>-1
def want (op:Int):Int:=if op=19∨op=28∨op=29 then 2 else if 20≤op∧op≤23 then 4 else if 24≤op∧op≤26 then 5 else if op=27 then 6 else 0
def zGF (p:List Ent) (locals:Int) (l:List InsP) (x:InsP):Prop :=
 (3≤x.2.1∧x.2.1≤6→x.2.2<locals)∧(14≤x.2.1∧x.2.1≤18→0≤opI l x.2.2)∧(want x.2.1≠0→(zAU p x.2.2).1=want x.2.1)
noncomputable instance (p:List Ent) (locals:Int) (l:List InsP) (x:InsP):Decidable (zGF p locals l x):=Classical.propDecidable _
def zDO (p:List Ent) (n:Int) (l:List InsP) (t:TrpP):Prop :=
 t.1<t.2.1∧0≤opI l t.1∧(t.2.1=n∨0≤opI l t.2.1)∧0≤opI l t.2.2.1∧(t.2.2.2=0∨zBS p t.2.2.2)
noncomputable instance (p:List Ent) (n:Int) (l:List InsP) (t:TrpP):Decidable (zDO p n l t):=Classical.propDecidable _
def zIa (p:List Ent) (k:KndP):Prop:=(0≤k.1∧k.1≤3)∧(k.1=3→zBS p k.2)∧(k.1≠3→k.2=0)
noncomputable instance (p:List Ent) (k:KndP):Decidable (zIa p k):=Classical.propDecidable _
def zBW (p:List Ent) (l:List KndP):Prop:=∀ k∈l,zIa p k
noncomputable instance (p:List Ent) (l:List KndP):Decidable (zBW p l):=Classical.propDecidable _
def zWF (p:List Ent) (m:MthP) (l:List InsP) (i:Nat):Prop :=
 let f:=m.2.2.2.2.2.2.2.getD i (0,[],[])
 0≤opI l f.1∧(0<i→(m.2.2.2.2.2.2.2.getD (i - 1) (0,[],[])).1<f.1)∧(f.2.1.length:Int)=m.2.2.2.2.1∧(f.2.2.length:Int)≤m.2.2.2.1∧zBW p f.2.1∧zBW p f.2.2
def zQO (p:List Ent) (m:MthP) (l:List InsP):Prop:=∀ i,i<m.2.2.2.2.2.2.2.length→zWF p m l i
noncomputable instance (p:List Ent) (m:MthP) (l:List InsP):Decidable (zQO p m l):=Classical.propDecidable _
noncomputable def takes (p:List Ent) (m:MthP):Int:=if has m.1 1 then ((dsc (txt p m.2.2.1)).1.length:Int) else (dsc (txt p m.2.2.1)).1.length+1
def zCN (p:List Ent) (m:MthP):Prop :=
 (opsV m.2.2.2.2.2.1).2=true∧m.2.2.2.1≤8∧(takes p m≤m.2.2.2.2.1∧m.2.2.2.2.1≤8) ∧
 (∀ x∈(opsV m.2.2.2.2.2.1).1,zGF p m.2.2.2.2.1 (opsV m.2.2.2.2.2.1).1 x)∧(∀ t∈m.2.2.2.2.2.2.1,zDO p m.2.2.2.2.2.1.length (opsV m.2.2.2.2.2.1).1 t)∧zQO p m (opsV m.2.2.2.2.2.1).1
noncomputable instance (p:List Ent) (m:MthP):Decidable (zCN p m):=Classical.propDecidable _
def zGG (c:ClsP):Prop:=∀ m∈c.2.2.2.2.2.2,¬ has m.1 8→zCN c.1 m
noncomputable instance (c:ClsP):Decidable (zGG c):=Classical.propDecidable _
noncomputable def chkV (c:ClsP):Int:=if zBl c.1 c.1.length 0≠0 then 2 else if ¬ zBx c then 3 else if ¬ zDq c then 4 else if ¬ zEU c then 5 else if ¬ zGG c then 6 else 0
end Go.Stow
end
section
namespace Go.TM
open Go.AM
section
variable {α X Y R:Type}
theorem zGD {f:X→Option (X ⊕ (Y ⊕ R))} (mk:Nat→X) (fin:Y) (no:R) (n:Nat) (p:Nat→Prop) {x0:X} (hx:x0=mk 0) {k:Y→Option R} {r:Option R}
  (hend:f (mk n)=some (.inr (.inl fin)))
  (hy:∀ i,i<n→p i→f (mk i)=some (.inl (mk (i+1))))
  (hn:∀ i,i<n→¬ p i→f (mk i)=some (.inr (.inr no)))
  (hk:(∀ i,i<n→p i)→k fin=r) (hno:¬ (∀ i,i<n→p i)→some no=r):bindE (zAF f x0) k=r:=by
 have key:∀ (m i:Nat),i+m=n→((∀ j,i≤j→j<n→p j)→zAF f (mk i)=some (.inl fin))∧(¬ (∀ j,i≤j→j<n→p j)→zAF f (mk i)=some (.inr no)):=by
  intro m
  induction m with
  | zero =>
    intro i hi
    have:i=n:=by omega
    subst this
    rw [zAk,hend]
    exact ⟨fun _=>rfl,fun h=>absurd (fun j h1 h2=>absurd h2 (by omega)) h⟩
  | succ m ih =>
    intro i hi
    obtain ⟨i1,i2⟩:=ih (i+1) (by omega)
    rw [zAk]
    by_cases hp:p i
    ·rw [hy i (by omega) hp]
     refine ⟨fun h=>i1 fun j h1 h2=>h j (by omega) h2,fun h=>i2 fun h'=>h fun j h1 h2=>?_⟩
     by_cases hj:j=i
     ·rw [hj];exact hp
     ·exact h' j (by omega) h2
    ·rw [hn i (by omega) hp]
     exact ⟨fun h=>absurd (h i (Nat.le_refl _) (by omega)) hp,fun _=>rfl⟩
 obtain ⟨k1,k2⟩:=key n 0 (by omega)
 rw [hx]
 by_cases h:∀ i,i<n→p i
 ·rw [k1 fun j _ h2=>h j h2,zAC,hk h]
 ·rw [k2 fun h'=>h fun i hi=>h' i (by omega) hi,zAH,hno h]
theorem zIP {f:X→Option (X ⊕ (Y ⊕ R))} (mk:Nat→X) (fin:Y) (l:List α) (p:α→Bool) (g:Nat→R) {x0:X} (hx:x0=mk 0) {k:Y→Option R}
  (hend:f (mk l.length)=some (.inr (.inl fin)))
  (hstep:∀ i (h:i<l.length),f (mk i)=if p l[i]=true then some (.inr (.inr (g i))) else some (.inl (mk (i+1)))) :
  bindE (zAF f x0) k=match l.findIdx? p with | some j=>some (g j) | none=>k fin:=by
 have key:∀ (m i:Nat),i+m=l.length→zAF f (mk i)=some (match (l.drop i).findIdx? p with | some j=>.inr (g (i+j)) | none=>.inl fin):=by
  intro m
  induction m with
  | zero =>
    intro i hi
    have:i=l.length:=by omega
    subst this
    rw [zAk,hend,List.drop_eq_nil_of_le (Nat.le_refl _)]
    rfl
  | succ m ih =>
    intro i hi
    have h:i<l.length:=by omega
    rw [zAk,hstep i h,zBT h,List.findIdx?_cons]
    by_cases hp:p l[i]=true
    ·rw [if_pos hp,if_pos hp]
     rfl
    ·rw [if_neg hp,if_neg hp]
     simp only
     rw [ih (i+1) (by omega)]
     cases (l.drop (i+1)).findIdx? p with
     | none=>rfl
     | some j=>simp only [Option.map_some,Option.some.injEq];rw [show i+1+j=i+(j+1) by omega]
 rw [hx,key l.length 0 (by omega),List.drop_zero]
 cases l.findIdx? p with
 | none=>rfl
 | some j=>simp only [zAH,Nat.zero_add]
end
end Go.TM
end
section
namespace Go.Stow
instance (b:UInt8):Decidable (let1 b):=inferInstanceAs (Decidable (_∨_))
instance (b:UInt8):Decidable (dig1 b):=inferInstanceAs (Decidable (_∧_))
theorem zSy {c:UInt8}:∀ l:List UInt8,cut c l=match l.findIdx? (fun x=>decide (x=c)) with | some j=>some (l.take j,l.drop (j+1)) | none=>none
 | []=>rfl
 | x :: l=>by
   rw [List.findIdx?_cons]
   unfold cut
   by_cases hx:x=c
   ·simp [hx]
   ·rw [if_neg hx,if_neg (by simpa using hx),zSy l]
    cases l.findIdx? (fun x=>decide (x=c)) <;> rfl
theorem zHL {c:UInt8}:∀ {a b:List UInt8},c ∉ a→Lib.indexByte (a++c :: b) c=a.length
 | [],b,_=>by simp [Lib.indexByte]
 | x :: a,b,h=>by
   simp only [List.mem_cons,not_or] at h
   have:=zHL (b:=b) h.2
   have hx:(x == c)=false:=by simpa using fun e:x=c=>h.1 e.symm
   have h1:(((a.length:Int)) == -1)=false:=by simp <;> omega
   simp only [List.cons_append,Lib.indexByte,hx,Bool.false_eq_true,if_false,this,List.length_cons,h1]
   omega
theorem zMq {c:UInt8}:∀ {l:List UInt8},c ∉ l→Lib.indexByte l c = -1
 | [],_=>rfl
 | x :: l,h=>by
   simp only [List.mem_cons,not_or] at h
   have hx:(x == c)=false:=by simpa using fun e:x=c=>h.1 e.symm
   simp only [Lib.indexByte,hx,Bool.false_eq_true,if_false,zMq h.2,beq_self_eq_true,if_true]
end Go.Stow
namespace Go.TM
open Go.AM
section
variable {X Y R:Type}
theorem zCn {f:X→Option (X ⊕ Y)} {x x':X} (h:f x=some (.inl x')):zAF f x=zAF f x':=by rw [zAk,h]
theorem zAj {f:X→Option (X ⊕ Y)} {x:X} {y:Y} (h:f x=some (.inr y)):zAF f x=some y:=by rw [zAk,h]
end
end Go.TM
namespace Go.Proofs.YtdpapeledldifaaGreat
open Go Go.AM Go.TM Go.Stow
theorem q107 (n a b:Int):F107 (n,a,b)=some (decide (a≤n∧n≤b)):=by
 simp only [F107,zAE]
 by_cases h:a≤n <;> simp [h]
theorem q89 (n a b:Int):F89 (n,a,b)=some (decide (a≤n∧n≤b)):=q107 n a b
theorem q212 (b:UInt8):F212 (b.toNat:Int)=some (decide (let1 b)):=by
 simp only [F212,zAE]
 repeat' split
 all_goals
  rw [Option.some.injEq,Bool.eq_iff_iff,decide_eq_true_iff (p:=let1 b)]
  simp only [let1,decide_eq_true_eq,true_iff,Bool.false_eq_true,false_iff]
  omega
theorem n127 (s:List UInt8) (hl:s.length≤1048576):F127 s=some (decide (Nm s)):=by
 simp only [F127]
 refine zGD (fun i=>(s,(i:Int))) s false s.length (fun i=>∀ h:i<s.length,let1 s[i]∨(i≠0∧dig1 s[i])) rfl ?_ ?_ ?_ ?_ ?_
 ·simp only [Int.lt_irrefl,decide_false,zAK]
 ·intro i h hp
  have hp:=hp h
  have hi:(i:Int)<s.length:=by omega
  have h0:(0:Int)≤i:=by omega
  simp (discharger:=omega) only [hi,h0,decide_true,zAJ,zAG,Int.toNat_natCast,zAL,q212,zAB,zAS,zAE]
  by_cases hq:let1 s[i]
  ·simp (discharger:=omega) only [hq,if_true,zAC,wI];rfl
  ·have hd:=hp.resolve_left hq
   have hi0:¬ (i:Int)=0:=by omega
   have hd1:¬ (s[i].toNat:Int)<48:=by have:=hd.2.1;omega
   have hd2:¬ (57:Int)<s[i].toNat:=by have:=hd.2.2;omega
   simp (discharger:=omega) only [hq,if_false,hi0,hd1,hd2,zAC,wI];rfl
 ·intro i h hp
  have hp:¬ (let1 s[i]∨(i≠0∧dig1 s[i])):=fun e=>hp fun _=>e
  have hi:(i:Int)<s.length:=by omega
  have h0:(0:Int)≤i:=by omega
  simp (discharger:=omega) only [hi,h0,decide_true,zAJ,zAG,Int.toNat_natCast,zAL,q212,zAB,zAS,zAE]
  have hq:¬ let1 s[i]:=fun e=>hp (.inl e)
  simp only [hq,if_false]
  by_cases hi0:(i:Int)=0
  ·simp only [hi0,if_true,zAH]
  ·by_cases hd1:(s[i].toNat:Int)<48
   ·simp only [hi0,hd1,if_true,if_false,zAH]
   ·by_cases hd2:(57:Int)<s[i].toNat
    ·simp only [hi0,hd1,hd2,if_true,if_false,zAH]
    ·exact absurd (.inr ⟨by omega,by omega,by omega⟩) hp
 ·intro h
  rw [q107,zAB]
  congr 1
  rw [decide_eq_decide]
  exact ⟨fun ⟨h1,h2⟩=>⟨⟨by omega,by omega⟩,fun i hi=>h i hi hi⟩,fun hn=>⟨by have:=hn.1;omega,by have:=hn.1;omega⟩⟩
 ·intro h
  rw [eq_comm]
  simp only [Option.some.injEq,decide_eq_false_iff_not]
  exact fun hn=>h fun i _ hi=>hn.2 i hi
theorem n48 (s:List UInt8) (hl:s.length≤1048576):F48 s=some (decide (Nm s)):=by
 simp only [F48,q89,zAB,zAS,zAE]
 by_cases hr:(1:Int)≤s.length∧(s.length:Int)≤8
 ·rw [if_pos hr]
  have h0:0<s.length:=by omega
  simp (discharger:=omega) only [zAL]
  by_cases hd:(48:Int)≤s[0].toNat∧(s[0].toNat:Int)≤57
  ·simp only [hd.1,hd.2,if_true,zAH,Option.some.injEq,eq_comm (a:=false),decide_eq_false_iff_not]
   intro hn
   have:=hn.2 0 h0
   simp only [let1,dig1] at this
   omega
  ·rw [show (if (48:Int)≤s[0].toNat then if (s[0].toNat:Int)≤57 then some (Sum.inr false) else some (Sum.inl s) else some (Sum.inl s):Option (List UInt8 ⊕ Bool))=some (Sum.inl s) by
    split
    ·split
     ·rename_i a b;exact absurd ⟨a,b⟩ hd
     ·rfl
    ·rfl]
   rw [zAC]
   refine zGD (fun i=>(s,(s.length:Int),(i:Int))) () false s.length (fun i=>∀ h:i<s.length,let1 s[i]∨dig1 s[i]) rfl ?_ ?_ ?_ ?_ ?_
   ·simp only [Int.lt_irrefl,if_false]
   ·intro i h hp
    have hp:=hp h
    have hi:(i:Int)<s.length:=by omega
    have hi0:(0:Int)≤i:=by omega
    have hw:IntKind.wrap .i64 ((i:Int)+1)=((i+1:Nat):Int):=by rw [wI (by omega) (by omega)];omega
    simp (discharger:=omega) only [hi,hi0,decide_true,if_true,zAG,Int.toNat_natCast,zAL,zAo,zAC,zAH,hw]
    generalize s[i]=b at hp
    simp only [let1,dig1] at hp
    repeat' split
    all_goals first | rfl | (exfalso;omega)
   ·intro i h hp
    have hp:¬ (let1 s[i]∨dig1 s[i]):=fun e=>hp fun _=>e
    have hi:(i:Int)<s.length:=by omega
    have hi0:(0:Int)≤i:=by omega
    simp (discharger:=omega) only [hi,hi0,decide_true,if_true,zAG,Int.toNat_natCast,zAL,zAo,zAC,zAH]
    generalize s[i]=b at hp
    simp only [let1,dig1] at hp
    repeat' split
    all_goals first | rfl | (exfalso;omega)
   ·intro h
    rw [eq_comm]
    simp only [Option.some.injEq,decide_eq_true_eq]
    refine ⟨⟨by omega,by omega⟩,fun i hi=>?_⟩
    rcases h i hi hi with hq | hq
    ·exact .inl hq
    ·by_cases h00:i=0
     ·subst h00;exact absurd ⟨by have:=hq.1;omega,by have:=hq.2;omega⟩ hd
     ·exact .inr ⟨h00,hq⟩
   ·intro h
    rw [eq_comm]
    simp only [Option.some.injEq,decide_eq_false_iff_not]
    exact fun hn=>h fun i _ hi=>(hn.2 i hi).imp id fun hq=>hq.2
 ·rw [if_neg hr,zAH,eq_comm]
  simp only [Option.some.injEq,decide_eq_false_iff_not]
  exact fun hn=>hr ⟨by have:=hn.1;omega,by have:=hn.1;omega⟩
end Go.Proofs.YtdpapeledldifaaGreat
end
section
namespace Go.Proofs.YtdpapeledldifaaGreat
open Go Go.AM Go.TM Go.Stow
theorem zTx (b:UInt8) (n:Nat) (h:n<256):((b.toNat:Int)=(n:Int))=(b=UInt8.ofNat n):=by
 apply propext
 constructor
 ·intro e
  have e:b.toNat=n:=by omega
  rw [← e,UInt8.ofNat_toNat]
 ·intro e
  subst e
  rw [UInt8.toNat_ofNat_of_lt' h]
theorem u41 (b:UInt8):((b.toNat:Int)=41)=(b=41):=zTx b 41 (by omega)
theorem u40 (b:UInt8):((b.toNat:Int)=40)=(b=40):=zTx b 40 (by omega)
theorem u59 (b:UInt8):((b.toNat:Int)=59)=(b=59):=zTx b 59 (by omega)
theorem u73 (b:UInt8):((b.toNat:Int)=73)=(b=73):=zTx b 73 (by omega)
theorem u76 (b:UInt8):((b.toNat:Int)=76)=(b=76):=zTx b 76 (by omega)
theorem zJL {α:Type} {s t r:List α} {n:Nat} (h:s.drop n=t++r):(s.take (n+t.length)).drop n=t∧s.drop (n+t.length)=r:=by
 constructor
 ·rw [List.drop_take,h,show n+t.length - n=t.length by omega,List.take_left']
  rfl
 ·rw [← List.drop_drop,h,List.drop_left']
  rfl
theorem zSx {α:Type} {s t r:List α} {n:Nat} (hn:n≤s.length) (h:s.drop n=t++r):n+t.length+r.length=s.length:=by
 have:=congrArg List.length h
 simp only [List.length_drop,List.length_append] at this
 omega
theorem n213 (s:List UInt8) (a:Nat) (hl:s.length≤1048576) (ha:a≤s.length):F213 (s,(a:Int))=some (match one (s.drop a) with | some (t,_)=>((a+t.length:Nat):Int) | none=>-1):=by
 have h0:(0:Int)≤a:=by omega
 by_cases hlt:(a:Int)<s.length
 ·have hn:a<s.length:=by omega
  have hle:¬ ((s.length:Int)≤a):=by omega
  simp (discharger:=omega) only [F213,hlt,hle,decide_true,decide_false,zAJ,zAK,zAG,h0,Int.toNat_natCast,zAL,zAS,zAE,u73,u76,wI]
  rw [zBT hn,zMh]
  by_cases h73:s[a]=73
  ·rw [if_pos h73,if_pos h73,zAH]
   simp only [List.length_singleton]
   rfl
  ·rw [if_neg h73,if_neg h73,zAC]
   simp (discharger:=omega) only [hle,if_false,h0,decide_true,zAG,Int.toNat_natCast,zAL]
   by_cases h76:s[a]=76
   ·rw [if_pos h76,if_pos h76]
    simp only [zAC]
    refine (zIP (fun j=>(s,(a:Int),((a+1+j:Nat):Int))) () (s.drop (a+1)) (fun x=>decide (x=59)) (fun j=>if Nm ((s.drop (a+1)).take j) then ((a+1+j+1:Nat):Int) else -1) ?_ ?_ ?_).trans ?_
    ·rw [wI (by omega) (by omega)];rfl
    ·have:¬ (((a+1+(s.drop (a+1)).length:Nat):Int)<s.length):=by simp only [List.length_drop];omega
     simp only [this,if_false]
    ·intro j hj
     have hj':a+1+j<s.length:=by simp only [List.length_drop] at hj;omega
     have hi:((a+1+j:Nat):Int)<s.length:=by omega
     have hi0:(0:Int)≤((a+1+j:Nat):Int):=by omega
     have hg1:(0:Int)≤(a:Int)+1:=by omega
     have hg2:(a:Int)+1≤((a+1+j:Nat):Int):=by omega
     have hg3:((a+1+j:Nat):Int)≤s.length:=by omega
     have ht:((a:Int)+1).toNat=a+1:=by omega
     have hd:(s.take (a+1+j)).drop (a+1)=(s.drop (a+1)).take j:=by rw [List.drop_take];congr 1;omega
     have hb:((s.drop (a+1)).take j).length≤1048576:=by simp only [List.length_take,List.length_drop];omega
     have hg:(s.drop (a+1))[j]=s[a+1+j]:=by simp
     simp (discharger:=omega) only [hi,hi0,hg1,hg2,hg3,if_true,decide_true,Bool.and_self,zAJ,zAG,ht,Int.toNat_natCast,zAL,u59,zAE,hd,n127 _ hb,zAB,wI,decide_eq_true_eq,hg]
     by_cases hx:s[a+1+j]=59
     ·rw [if_pos hx,if_pos hx]
      by_cases hm:Nm ((s.drop (a+1)).take j)
      ·rw [if_pos hm,if_pos hm];rfl
      ·rw [if_neg hm,if_neg hm]
     ·rw [if_neg hx,if_neg hx]
      rfl
    ·rw [zSy]
     cases hf:(s.drop (a+1)).findIdx? (fun x=>decide (x=59)) with
     | none=>rfl
     | some j =>
       simp only [Option.bind_some]
       have hj:=(List.findIdx?_eq_some_iff_getElem.1 hf).1
       by_cases hm:Nm ((s.drop (a+1)).take j)
       ·rw [if_pos hm,if_pos hm]
        simp only [List.length_cons,List.length_append,List.length_take,List.length_nil]
        rw [Nat.min_eq_left (by omega)]
        congr 1
        omega
       ·rw [if_neg hm,if_neg hm]
   ·rw [if_neg h76,if_neg h76]
    rfl
 ·have hle:(s.length:Int)≤a:=by omega
  simp only [F213,hlt,hle,decide_true,decide_false,zAJ,zAK,zAC,zAH]
  rw [List.drop_eq_nil_of_le (by omega)]
  rfl
theorem n128 (s:List UInt8) (hl:s.length≤1048576):F128 s=some (decide (Tok s)):=by
 simp only [F128,zAE]
 by_cases h:(0:Int)<s.length
 ·have e:=n213 s 0 hl (by omega)
  rw [if_pos h]
  rw [show ((0:Int))=((0:Nat):Int) from rfl,e,zAB,List.drop_zero]
  congr 1
  rw [decide_eq_decide]
  cases ho:one s with
  | none =>
    simp only
    constructor
    ·intro h;omega
    ·intro ht;rw [zUE,ho] at ht;cases ht
  | some p =>
    obtain ⟨t,r⟩:=p
    obtain ⟨h1,h2⟩:=zCB ho
    simp only [Nat.zero_add]
    constructor
    ·intro hh
     have:r=[]:=by
      have:=congrArg List.length h1
      rw [List.length_append] at this
      exact List.length_eq_zero_iff.1 (by omega)
     rw [this,List.append_nil] at h1
     rw [h1];exact h2
    ·intro ht
     rw [zUE,ho] at ht
     simp only [Option.some.injEq,Prod.mk.injEq] at ht
     rw [ht.1]
 ·rw [if_neg h,eq_comm]
  have:s=[]:=List.length_eq_zero_iff.1 (by omega)
  subst this
  simp only [Option.some.injEq,decide_eq_false_iff_not]
  exact zDG
theorem zTH {X Y R:Type} {f:X→Option (X ⊕ (Y ⊕ R))} {k:Y→Option R} (s:List UInt8) (mk:List (List UInt8)→Nat→X) (bad:R) (good:List (List UInt8)→List UInt8→R)
  (hend:∀ out a,s.length≤a→bindE (zAF f (mk out a)) k=some bad)
  (h41:∀ out a (h:a<s.length),s[a]=41→bindE (zAF f (mk out a)) k=some (good out (s.drop (a+1))))
  (hbad:∀ out a (h:a<s.length),s[a]≠41→(one (s.drop a)=none∨4≤out.length)→bindE (zAF f (mk out a)) k=some bad)
  (hstep:∀ out a t r (h:a<s.length),s[a]≠41→one (s.drop a)=some (t,r)→out.length<4→f (mk out a)=some (.inl (mk (out++[t]) (a+t.length)))) :
  ∀ (n a:Nat) (out:List (List UInt8)),out.length+n=4→a≤s.length→bindE (zAF f (mk out a)) k=some (match more n (s.drop a) with | some (ts,b)=>good (out++ts) b | none=>bad):=by
 intro n
 induction n with
 | zero =>
   intro a out ho ha
   by_cases h:a<s.length
   ·rw [zBT h]
    simp only [more]
    by_cases hx:s[a]=41
    ·rw [if_pos hx,h41 out a h hx];simp only [List.append_nil]
    ·rw [if_neg hx,hbad out a h hx (.inr (by omega))]
   ·rw [hend out a (by omega),List.drop_eq_nil_of_le (by omega)]
    rfl
 | succ n ih =>
   intro a out ho ha
   by_cases h:a<s.length
   ·rw [zBT h,zFk]
    by_cases hx:s[a]=41
    ·rw [if_pos hx,h41 out a h hx];simp only [List.append_nil]
    ·rw [if_neg hx,← zBT h]
     cases hone:one (s.drop a) with
     | none=>rw [hbad out a h hx (.inl hone)];rfl
     | some p =>
       obtain ⟨t,r⟩:=p
       have hds:=zJL (zCB hone).1
       have hdl:=zSx ha (zCB hone).1
       rw [zCn (hstep out a t r h hx hone (by omega)),ih (a+t.length) (out++[t]) (by simp;omega) (by omega),hds.2]
       simp only [Option.bind_some]
       cases more n r with
       | none=>rfl
       | some q=>simp only [Option.map_some,List.append_assoc,List.singleton_append]
   ·rw [hend out a (by omega),List.drop_eq_nil_of_le (by omega)]
    rfl
noncomputable def fin3 (ts:List (List UInt8)) (back:List UInt8):List (List UInt8)×List UInt8×Bool:=if back=[86]∨Tok back then (ts,back,true) else ([],[],false)
theorem zHN (x:UInt8) (l:List UInt8):dsc (x :: l)=if x=40 then (match more 4 l with | some (ts,b)=>fin3 ts b | none=>([],[],false)) else ([],[],false):=by
 simp only [dsc]
 split
 ·cases more 4 l with
  | none=>rfl
  | some p=>rfl
 ·rfl
theorem n214 (s:List UInt8) (hl:s.length≤1048576):F214 s=some (dsc s):=by
 cases hs:s with
 | nil=>rfl
 | cons x l =>
   have hne:¬ (((x :: l).length:Int)=0):=by simp only [List.length_cons];omega
   have hpos:0<(x :: l).length:=by simp
   rw [zHN]
   simp (discharger:=assumption) only [F214,hne,decide_false,zAK,zAL,zAS,zAE,u40,u41,List.getElem_cons_zero]
   by_cases h40:x=40
   ·rw [if_pos h40,if_pos h40,zAC]
    rw [← hs]
    have hd1:s.drop 1=l:=by rw [hs];rfl
    rw [← hd1]
    refine zTH s (fun out a=>(s,out,(a:Int))) ([],[],false) fin3 ?_ ?_ ?_ ?_ 4 1 [] rfl (by rw [hs];simp)
    ·intro out a ha
     have h1:¬ ((a:Int)<s.length):=by omega
     have h2:(s.length:Int)≤a:=by omega
     rw [zAj (y:=.inl (s,out,(a:Int))) (by simp only [h1,if_false,zAH])]
     simp only [zAC,h2,if_true]
    ·intro out a h hx
     have h1:(a:Int)<s.length:=by omega
     have h2:¬ (s.length:Int)≤a:=by omega
     have h0:(0:Int)≤a:=by omega
     rw [zAj (y:=.inl (s,out,(a:Int))) (by simp (discharger:=omega) only [h1,if_true,h0,decide_true,zAG,Int.toNat_natCast,zAL,hx,zAH])]
     have ht:((a:Int)+1).toNat=a+1:=by omega
     have hg1:(0:Int)≤(a:Int)+1:=by omega
     have hg2:(a:Int)+1≤s.length:=by omega
     have hb:(s.drop (a+1)).length≤1048576:=by simp only [List.length_drop];omega
     simp (discharger:=omega) only [zAC,h2,if_false,wI,ht,hg1,hg2,Int.le_refl,decide_true,Bool.and_self,zAG,Int.toNat_natCast,List.take_length,n128 _ hb,zAB,zAE,fin3]
     by_cases hv:s.drop (a+1)=[86]
     ·simp only [hv,if_true,true_or]
     ·by_cases htk:Tok (s.drop (a+1)) <;> simp only [hv,htk,if_true,if_false,false_or]
    ·intro out a h hx hh
     have h1:(a:Int)<s.length:=by omega
     have h0:(0:Int)≤a:=by omega
     rw [zAj (y:=.inr ([],[],false))]
     ·rfl
     ·simp (discharger:=omega) only [h1,if_true,h0,decide_true,zAG,Int.toNat_natCast,zAL,hx,if_false,zAC,n213 s a hl (by omega),zAB]
      cases ho:one (s.drop a) with
      | none=>rfl
      | some p =>
        obtain ⟨t,r⟩:=p
        rcases hh with hh | hh
        ·rw [ho] at hh;cases hh
        ·have q1:¬ (((a+t.length:Nat):Int)<0):=by omega
         have q2:(4:Int)≤out.length:=by omega
         simp only [q1,q2,if_true,if_false,zAH]
    ·intro out a t r h hx ho hlt
     have h1:(a:Int)<s.length:=by omega
     have h0:(0:Int)≤a:=by omega
     have hds:=zJL (zCB ho).1
     have hdl:=zSx (by omega) (zCB ho).1
     have q1:¬ (((a+t.length:Nat):Int)<0):=by omega
     have q2:¬ (4:Int)≤out.length:=by omega
     have q3:(a:Int)≤((a+t.length:Nat):Int):=by omega
     have q4:((a+t.length:Nat):Int)≤s.length:=by omega
     have q5:out.length+1≤9223372036854775807:=by omega
     have q6:(out.length+1)*16≤140737488355328:=by omega
     simp (discharger:=omega) only [h1,if_true,h0,decide_true,zAG,Int.toNat_natCast,zAL,hx,if_false,zAC,n213 s a hl (by omega),zAB,ho,q1,q2,q3,q4,q5,q6,Bool.and_self,hds.1]
   ·rw [if_neg h40,if_neg h40,zAH]
theorem n129 (s:List UInt8) (hl:s.length≤1048576):F129 s=some (decide (Dsc s)):=by
 simp only [F129,n214 s hl,zAB]
 congr 1
 rw [Bool.eq_iff_iff,decide_eq_true_iff]
 exact Iff.rfl
end Go.Proofs.YtdpapeledldifaaGreat
end
section
namespace Go.Proofs.YtdpapeledldifaaGreat
open Go Go.AM Go.TM Go.Stow
set_option maxRecDepth 10000
theorem tok_long {x:List UInt8} (h:Tok x) (h1:x≠[73]):3≤x.length:=by
 rcases h with rfl | ⟨n,hn,rfl⟩
 ·exact absurd rfl h1
 ·have:=hn.1.1
  simp only [List.length_cons,List.length_append,List.length_nil];omega
theorem zIp {v:List UInt8} {p:List Cst} {f n s:Int} {fa:List Int} {fi:List (Int×Int×Int)} {ms:List Mth} {bad:Bool} {K:Nat} {ri:Nat} {r0 r1 r2 r3 r4:Int} {r5:List UInt8} {r6:List (Int×Int×Int×Int)} {fr:List Frm} (hv:v.length≤1000000) (hp:Pl K p) (hK:K≤800000) :
  Tot (F807000316 (v,(p,f,n,s,fa,fi,bad),(ms,ri,r0,r1,r2,r3,r4,r5,r6),fr)) fun y=>∃ l q b,y=(l,(q,f,n,s,fa,fi,b),(ms,ri,r0,r1,r2,r3,r4,r5,r6),fr)∧l.length≤16∧Pl (K+18) q:=by
 unfold F807000316
 refine Tot.cnd (fun _=>Tot.ret ⟨_,_,_,rfl,by simp,hp.mono (by omega)⟩) fun _=>?_
 refine Tot.bind (t278 (by omega) (by omega)) ?_
 rintro y ⟨-,-,hy2,hy3⟩
 refine Tot.bindE (fun z=>∃ l q b,z=(l,(q,f,n,s,fa,fi,b),(ms,ri,r0,r1,r2,r3,r4,r5,r6),fr)∧l.length≤16∧Pl (K+18) q)
  (Tot.loop (fun z=>∃ l i q b,z=(l,y,i,(q,f,n,s,fa,fi,b),(ms,ri,r0,r1,r2,r3,r4,r5,r6),fr)∧0≤i∧i≤(y.length:Int)∧(l.length:Int)≤i∧Pl (K+2*i.toNat) q) (fun z=>y.length - z.2.2.1.toNat) ?_ ⟨[],0,p,bad,rfl,by simp,by simp,by simp,hp.mono (by omega)⟩) ?_
 ·rintro _ ⟨l,i,q,b,rfl,i0,i1,hl,hq⟩
  refine Tot.cnd (fun h=>?_) fun h=>Tot.ret ⟨_,_,_,rfl,by omega,hq.mono (by omega)⟩
  simp only [decide_eq_true_eq] at h
  obtain ⟨x,ex⟩:∃ x,y[i.toNat]? = some x:=⟨y[i.toNat],List.getElem?_eq_getElem (by omega)⟩
  have hx:=hy3 x (List.mem_of_getElem? ex)
  have gi:(decide ((0:Int)≤i) && decide (i<(y.length:Int)))=true:=by simp;omega
  have gl:(decide (List.length l+1≤9223372036854775807) && decide ((List.length l+1)*16≤140737488355328))=true:=by simp;omega
  refine Tot.bindE (fun z=>∃ l' q' b',z=(l',y,i,(q',f,n,s,fa,fi,b'),(ms,ri,r0,r1,r2,r3,r4,r5,r6),fr)∧(l'.length:Int)≤i+1∧Pl (K+2*i.toNat+2) q') ?_ ?_
  ·refine Tot.grd gi (Tot.at' ex (Tot.cnd (fun _=>Tot.grd gl (Tot.ret ⟨_,_,_,rfl,by simp;omega,hq.mono (by omega)⟩)) fun h1=>?_))
   simp only [decide_eq_false_iff_not] at h1
   refine Tot.grd gi (Tot.at' ex (Tot.cnd (fun _=>Tot.grd gl (Tot.ret ⟨_,_,_,rfl,by simp;omega,hq.mono (by omega)⟩)) fun h2=>?_))
   refine Tot.grd gi (Tot.at' ex (Tot.cnd (fun _=>Tot.grd gl (Tot.ret ⟨_,_,_,rfl,by simp;omega,hq.mono (by omega)⟩)) fun h3=>?_))
   refine Tot.grd gi (Tot.at' ex ?_)
   rw [n128 x (by omega),zAB]
   refine Tot.cnd (fun ht=>?_) fun _=>Tot.ret ⟨_,_,_,rfl,by omega,hq.mono (by omega)⟩
   simp only [decide_eq_true_eq] at ht
   have h3l:=tok_long ht h1
   refine Tot.grd gi (Tot.at' ex (Tot.grd gi (Tot.at' ex (Tot.grd ?_ ?_))))
   ·rw [wrapI (by omega) (by omega)];simp;omega
   refine Tot.bind (zTW hq (by omega)) ?_
   rintro _ ⟨_,q',b',rfl,hq'⟩
   exact Tot.grd gl (Tot.ret ⟨_,_,_,rfl,by simp;omega,hq'.mono (by omega)⟩)
  rintro _ ⟨l',q',b',rfl,hl',hq'⟩
  have hw:IntKind.wrap .i64 (i+1)=i+1:=wrapI (by omega) (by omega)
  show Tot (some (Sum.inl (l',y,IntKind.wrap .i64 (i+1),(q',f,n,s,fa,fi,b'),(ms,ri,r0,r1,r2,r3,r4,r5,r6),fr))) _
  rw [hw]
  exact Tot.ret ⟨⟨_,_,_,_,rfl,by omega,by omega,hl',hq'.mono (by omega)⟩,by show y.length - (i+1).toNat<y.length - i.toNat;omega⟩
 rintro _ ⟨l,q,b,rfl,hl,hq⟩
 exact Tot.ret ⟨_,_,_,rfl,hl,hq⟩
def Bu (K:Nat) (y:List Cst×Int×Int×Int×List Int×List (Int×Int×Int)×List Mth×Bool):Prop:=Pl K y.1∧y.2.2.2.2.1.length≤K∧y.2.2.2.2.2.1.length≤K∧Ms K y.2.2.2.2.2.2.1
theorem Bu.mono {K L:Nat} {y:List Cst×Int×Int×Int×List Int×List (Int×Int×Int)×List Mth×Bool} (h:Bu K y) (hc:K≤L):Bu L y:=⟨h.1.mono hc,Nat.le_trans h.2.1 hc,Nat.le_trans h.2.2.1 hc,h.2.2.2.mono hc⟩
theorem t279 {v:List UInt8} {p:List Cst} {f n s:Int} {fa:List Int} {fi:List (Int×Int×Int)} {ms:List Mth} {bad:Bool} {K:Nat} (hv:v.length≤1000000) (h:Bu K (p,f,n,s,fa,fi,ms,bad)) (hK:K≤700000) :
  Tot (F279 (v,p,f,n,s,fa,fi,ms,bad)) (Bu (K+60)):=by
 obtain ⟨hp,hfa,hfi,hm⟩:=h
 simp only at hp hfa hfi hm
 have hl:=hm.1
 unfold F279
 refine Tot.bindE (fun z=>∃ b,z=(v,b,p,f,n,s,fa,fi,ms,bad)∧(b=true→2<v.length)) ?_ ?_
 ·refine Tot.cnd (fun h=>?_) fun _=>Tot.ret ⟨_,rfl,by simp⟩
  simp only [decide_eq_true_eq] at h
  exact Tot.grd (by simp;omega) (Tot.ret ⟨_,rfl,fun _=>by omega⟩)
 rintro _ ⟨b,rfl,hb⟩
 refine Tot.cnd (fun h=>?_) fun _=>?_
 ·have:=hb h
  refine Tot.grd (by simp;omega) (Tot.bind (t278 (by simp;omega) (by omega)) ?_)
  rintro y ⟨hy1,-,hy2,hy3⟩
  refine Tot.bind (t309 (by omega) (by omega) (fun x hx=>by have:=hy3 x hx;simp only [List.length_drop,List.length_take] at this;omega) hp hm (by omega)) ?_
  rintro _ ⟨q,ms',b,rfl,hq,hm'⟩
  exact Tot.ret ⟨hq.mono (by omega),by simp only;omega,by simp only;omega,hm'.mono (by omega)⟩
 refine Tot.bind (t278 (by omega) (by omega)) ?_
 rintro w ⟨hw1,-,hw2,hw3⟩
 have hwt:∀ x∈w,x.length≤1000000:=fun x hx=>by have:=hw3 x hx;omega
 have hwt':∀ x∈w,x.length≤1000000000000:=fun x hx=>by have:=hw3 x hx;omega
 have keep:∀ {b:Bool},Bu (K+60) (p,f,n,s,fa,fi,ms,b):=⟨hp.mono (by omega),by simp only;omega,by simp only;omega,hm.mono (by omega)⟩
 refine Tot.bindE (fun z=>z=(w,decide ((0:Int)<(ms.length:Int)),p,f,n,s,fa,fi,ms,bad)) (Tot.ret rfl) ?_
 rintro _ rfl
 generalize hbo:decide ((0:Int)<(ms.length:Int))=body
 refine Tot.bindE (fun z=>Bu (K+60) z) ?_ ?_
 ·refine Tot.bindE (fun z=>∃ b,z=(w,body,b,p,f,n,s,fa,fi,ms,bad)∧(b=true→w.length=4)) ?_ ?_
  ·refine Tot.grd (by simp;omega) (Tot.at (by show 0<w.length;omega) fun x _=>Tot.cnd (fun _=>Tot.cnd (fun h=>?_) fun _=>Tot.ret ⟨_,rfl,by simp⟩) fun _=>Tot.ret ⟨_,rfl,by simp⟩)
   simp only [decide_eq_true_eq] at h
   exact Tot.ret ⟨_,rfl,fun _=>by omega⟩
  rintro _ ⟨b,rfl,hb⟩
  refine Tot.cnd (fun h=>?_) fun _=>?_
  ·have:=hb h
   refine Tot.grd (by simp;omega) (Tot.at (by show 1<w.length;omega) fun x1 _=>Tot.bind (t310 hp (by omega)) ?_)
   rintro _ ⟨_,q,b,rfl,hq⟩
   refine Tot.grd (by simp;omega) (Tot.at (by show 2<w.length;omega) fun x2 _=>Tot.bind (t310 hq (by omega)) ?_)
   rintro _ ⟨_,q,b,rfl,hq⟩
   refine Tot.grd (by simp;omega) (Tot.at (by show 3<w.length;omega) fun x3 hx3=>Tot.bind (t311 (hwt' _ (List.mem_of_getElem? hx3))) ?_)
   rintro _ ⟨_,b,rfl⟩
   exact Tot.ret ⟨hq.mono (by omega),by simp only;omega,by simp only;omega,hm.mono (by omega)⟩
  refine Tot.bindE (fun z=>∃ b,z=(w,body,b,p,f,n,s,fa,fi,ms,bad)∧(b=true→w.length=2)) ?_ ?_
  ·exact Tot.grd (by simp;omega) (Tot.at (by show 0<w.length;omega) fun x _=>Tot.cnd (fun _=>Tot.ret ⟨_,rfl,fun h=>by simp only [decide_eq_true_eq] at h;omega⟩) fun _=>Tot.ret ⟨_,rfl,by simp⟩)
  rintro _ ⟨b,rfl,hb⟩
  refine Tot.cnd (fun h=>?_) fun _=>?_
  ·have:=hb h
   refine Tot.grd (by simp;omega) (Tot.at (by show 1<w.length;omega) fun x1 _=>Tot.bind (t5000310 hp (by omega)) ?_)
   rintro _ ⟨_,q,b,rfl,hq⟩
   exact Tot.grd (by simp;omega) (Tot.ret ⟨hq.mono (by omega),by simp;omega,by simp only;omega,hm.mono (by omega)⟩)
  refine Tot.bindE (fun z=>∃ b,z=(w,body,b,p,f,n,s,fa,fi,ms,bad)∧(b=true→w.length=4)) ?_ ?_
  ·exact Tot.grd (by simp;omega) (Tot.at (by show 0<w.length;omega) fun x _=>Tot.cnd (fun _=>Tot.ret ⟨_,rfl,fun h=>by simp only [decide_eq_true_eq] at h;omega⟩) fun _=>Tot.ret ⟨_,rfl,by simp⟩)
  rintro _ ⟨b,rfl,hb⟩
  refine Tot.cnd (fun h=>?_) fun _=>?_
  ·have hw4:=hb h
   obtain ⟨x1,e1⟩:∃ x,w[1]? = some x:=⟨w[1],List.getElem?_eq_getElem (by omega)⟩
   obtain ⟨x2,e2⟩:∃ x,w[2]? = some x:=⟨w[2],List.getElem?_eq_getElem (by omega)⟩
   obtain ⟨x3,e3⟩:∃ x,w[3]? = some x:=⟨w[3],List.getElem?_eq_getElem (by omega)⟩
   have g1:decide (1<w.length)=true:=by simp only [decide_eq_true_eq];omega
   have g2:decide (2<w.length)=true:=by simp only [decide_eq_true_eq];omega
   have g3:decide (3<w.length)=true:=by simp only [decide_eq_true_eq];omega
   have k1:decide ((1:Int)<(w.length:Int))=true:=by simp only [decide_eq_true_eq];omega
   have k2:decide ((2:Int)<(w.length:Int))=true:=by simp only [decide_eq_true_eq];omega
   have k3:decide ((3:Int)<(w.length:Int))=true:=by simp only [decide_eq_true_eq];omega
   obtain ⟨_,c1,i1,q1,b1,rfl,hq1⟩:=zSL (x:=x1) (f:=f) (n:=n) (s:=s) (fa:=fa) (fi:=fi) (ms:=ms) (bad:=bad) hp (by omega)
   obtain ⟨_,c2,i2,q2,b2,rfl,hq2⟩:=zSL (x:=x2) (f:=f) (n:=n) (s:=s) (fa:=fa) (fi:=fi) (ms:=ms) (bad:=b1) hq1 (by omega)
   obtain ⟨_,c3,i3,b3,rfl⟩:=t6000311 (x:=x3) (p:=q2) (f:=f) (n:=n) (s:=s) (fa:=fa) (fi:=fi) (ms:=ms) (bad:=b2) (hwt' _ (List.mem_of_getElem? e3))
   have gl:(decide (List.length fi+1≤9223372036854775807) && decide ((List.length fi+1)*24≤140737488355328))=true:=by simp;omega
   simp only [k1,k2,k3,g1,g2,g3,zCK e1,zCK e2,zCK e3,c1,c2,c3,zAB,eq_self,decide_true,zAG,zAV,gl]
   exact Tot.ret ⟨hq2.mono (by omega),by simp only;omega,by simp;omega,hm.mono (by omega)⟩
  refine Tot.bindE (fun z=>∃ b,z=(w,body,b,p,f,n,s,fa,fi,ms,bad)∧(b=true→w.length=4∨w.length=6)) ?_ ?_
  ·refine Tot.grd (by simp;omega) (Tot.at (by show 0<w.length;omega) fun x _=>Tot.cnd (fun _=>Tot.cnd (fun h=>?_) fun _=>Tot.ret ⟨_,rfl,fun h=>by simp only [decide_eq_true_eq] at h;omega⟩) fun _=>Tot.ret ⟨_,rfl,by simp⟩)
   simp only [decide_eq_true_eq] at h
   exact Tot.ret ⟨_,rfl,fun _=>by omega⟩
  rintro _ ⟨b,rfl,hb⟩
  refine Tot.cnd (fun h=>?_) fun _=>?_
  ·refine Tot.bind (t313 (hb h) hwt' hp hm (by omega)) ?_
   rintro _ ⟨q,ms',b,rfl,hq,hm'⟩
   exact Tot.ret ⟨hq.mono (by omega),by simp only;omega,by simp only;omega,hm'.mono (by omega)⟩
  refine Tot.bindE (fun z=>∃ b,z=(w,body,b,p,f,n,s,fa,fi,ms,bad)∧(b=true→w.length=5∧body=true)) ?_ ?_
  ·refine Tot.grd (by simp;omega) (Tot.at (by show 0<w.length;omega) fun x _=>Tot.cnd (fun _=>Tot.cnd (fun h=>?_) fun _=>Tot.ret ⟨_,rfl,by simp⟩) fun _=>Tot.ret ⟨_,rfl,by simp⟩)
   simp only [decide_eq_true_eq] at h
   exact Tot.ret ⟨_,rfl,fun h=>⟨by omega,h⟩⟩
  rintro _ ⟨b,rfl,hb⟩
  refine Tot.cnd (fun h=>?_) fun _=>?_
  ·obtain ⟨h5,h6⟩:=hb h
   rw [← hbo,decide_eq_true_eq] at h6
   refine Tot.bind (t314 h5 (by omega) hwt' hp hm (by omega)) ?_
   rintro _ ⟨q,ms',b,rfl,hq,hm'⟩
   exact Tot.ret ⟨hq.mono (by omega),by simp only;omega,by simp only;omega,hm'.mono (by omega)⟩
  refine Tot.bindE (fun z=>∃ b,z=(w,b,p,f,n,s,fa,fi,ms,bad)∧(b=true→w.length=4∧body=true)) ?_ ?_
  ·refine Tot.grd (by simp;omega) (Tot.at (by show 0<w.length;omega) fun x _=>Tot.cnd (fun _=>Tot.cnd (fun h=>?_) fun _=>Tot.ret ⟨_,rfl,by simp⟩) fun _=>Tot.ret ⟨_,rfl,by simp⟩)
   simp only [decide_eq_true_eq] at h
   exact Tot.ret ⟨_,rfl,fun h=>⟨by omega,h⟩⟩
  rintro _ ⟨b,rfl,hb⟩
  refine Tot.cnd (fun h=>?_) fun _=>Tot.ret keep
  obtain ⟨h5,h6⟩:=hb h
  rw [← hbo,decide_eq_true_eq] at h6
  have h1:1≤ms.length:=by omega
  obtain ⟨x1,e1⟩:∃ x,w[1]? = some x:=⟨w[1],List.getElem?_eq_getElem (by omega)⟩
  obtain ⟨x2,e2⟩:∃ x,w[2]? = some x:=⟨w[2],List.getElem?_eq_getElem (by omega)⟩
  obtain ⟨x3,e3⟩:∃ x,w[3]? = some x:=⟨w[3],List.getElem?_eq_getElem (by omega)⟩
  have g1:decide (1<w.length)=true:=by simp only [decide_eq_true_eq];omega
  have g2:decide (2<w.length)=true:=by simp only [decide_eq_true_eq];omega
  have g3:decide (3<w.length)=true:=by simp only [decide_eq_true_eq];omega
  have j1:decide ((1:Int)<(w.length:Int))=true:=by simp only [decide_eq_true_eq];omega
  have j2:decide ((2:Int)<(w.length:Int))=true:=by simp only [decide_eq_true_eq];omega
  have j3:decide ((3:Int)<(w.length:Int))=true:=by simp only [decide_eq_true_eq];omega
  obtain ⟨m,em⟩:∃ m,ms[ms.length - 1]? = some m:=⟨ms[ms.length - 1],List.getElem?_eq_getElem (by omega)⟩
  have hmb:=hm.2 m (List.mem_of_getElem? em)
  have hlt:decide (ms.length - 1<ms.length)=true:=by simp only [decide_eq_true_eq];omega
  obtain ⟨m0,m1,m2,m3,m4,m5,m6,m7⟩:=m
  obtain ⟨k1,k2,k3,k4⟩:=hmb
  simp only at k1 k2 k3 k4
  obtain ⟨_,c1,i1,b1,rfl⟩:=zTV (x:=x1) (p:=p) (f:=f) (n:=n) (s:=s) (fa:=fa) (fi:=fi) (ms:=ms) (bad:=bad) (ri:=ms.length - 1) (r0:=m0) (r1:=m1) (r2:=m2) (r3:=m3) (r4:=m4) (r5:=m5) (r6:=m6) (fr:=m7) (hwt' _ (List.mem_of_getElem? e1))
  obtain ⟨_,c2,i2,q2,b2,rfl,l2,hq2⟩:=zIp (v:=x2) (f:=f) (n:=n) (s:=s) (fa:=fa) (fi:=fi) (ms:=ms) (bad:=b1) (ri:=ms.length - 1) (r0:=m0) (r1:=m1) (r2:=m2) (r3:=m3) (r4:=m4) (r5:=m5) (r6:=m6) (fr:=m7) (hwt _ (List.mem_of_getElem? e2)) hp (by omega)
  obtain ⟨_,c3,i3,q3,b3,rfl,l3,hq3⟩:=zIp (v:=x3) (f:=f) (n:=n) (s:=s) (fa:=fa) (fi:=fi) (ms:=ms) (bad:=b2) (ri:=ms.length - 1) (r0:=m0) (r1:=m1) (r2:=m2) (r3:=m3) (r4:=m4) (r5:=m5) (r6:=m6) (fr:=m7) (hwt _ (List.mem_of_getElem? e3)) hq2 (by omega)
  have gl:(decide (List.length m7+1≤9223372036854775807) && decide ((List.length m7+1)*56≤140737488355328))=true:=by simp;omega
  simp only [g1,g2,g3,j1,j2,j3,q315 h1 (show ms.length≤1000000 by omega),zMX h1 (show ms.length≤1000000 by omega),zCK e1,zCK e2,zCK e3,zCK em,c1,c2,c3,zAB,eq_self,decide_true,Bool.and_true,Bool.true_and,beq_self_eq_true,hlt,zAG,zAV,gl]
  refine Tot.ret ⟨hq3.mono (by omega),by simp only;omega,by simp only;omega,(hm.mono (by omega)).set _ ?_⟩
  refine ⟨by simp only;omega,by simp only;omega,by simp only [List.length_append,List.length_cons,List.length_nil];omega,fun f hf=>?_⟩
  simp only [List.mem_append,List.mem_singleton] at hf
  rcases hf with hf | rfl
  ·exact k4 f hf
  ·exact ⟨l2,l3⟩
 ·rintro ⟨p,f,n,s,fa,fi,ms,bad⟩ hz
  exact Tot.ret hz
end Go.Proofs.YtdpapeledldifaaGreat
end
section
namespace Go.Proofs.YtdpapeledldifaaGreat
open Go Go.AM Go.TM Go.Stow
theorem n204 (s:List UInt8) (c:UInt8) (hl:s.length≤1048576):F204 (s,[c])=some (match s with | x :: l=>if x=c then (l,true) else (s,false) | []=>(s,false)):=by
 cases s with
 | nil=>rfl
 | cons x l =>
   have h1:(([c]:List UInt8).length:Int)≤(x :: l).length:=by simp only [List.length_cons,List.length_nil];omega
   have h0:(0:Int)≤(([c]:List UInt8).length:Int):=by simp
   have ht:Int.toNat (([c]:List UInt8).length:Int)=1:=rfl
   simp only [F204,F259,F293,h1,h0,Int.le_refl,decide_true,zAJ,Bool.and_self,zAG,ht,zAB,zAS,zAE,Int.toNat_natCast,List.take_length,List.drop_zero,List.take_succ_cons,List.take_zero,List.drop_succ_cons]
   by_cases hx:x=c
   ·rw [if_pos (by rw [hx]),if_pos hx,zAB]
   ·rw [if_neg (by simpa using hx),if_neg hx,zAB]
theorem n205 (s:List UInt8) (c:UInt8) (hl:s.length≤1048576):∃ t b,F205 (s,[c])=some (t,b)∧(b=true→s=t++[c])∧(b=false→∀ u,s≠u++[c]):=by
 by_cases hs:s=[]
 ·subst hs
  exact ⟨[],false,rfl,(fun h=>by cases h),fun _ u h=>by simp at h⟩
 ·have hpos:0<s.length:=List.length_pos_iff.2 hs
  have h1:(([c]:List UInt8).length:Int)≤s.length:=by simp;omega
  have e1:(([c]:List UInt8).length:Int)=1:=rfl
  have g1:(0:Int)≤(s.length:Int) - 1:=by omega
  have g2:(s.length:Int) - 1≤s.length:=by omega
  have ht:((s.length:Int) - 1).toNat=s.length - 1:=by omega
  have hsp:s.take (s.length - 1)++s.drop (s.length - 1)=s:=List.take_append_drop _ _
  rw [e1] at h1
  simp (discharger:=omega) only [F205,F260,F294,e1,h1,decide_true,zAJ,wI,g1,g2,Int.le_refl,Bool.and_self,zAG,ht,Int.toNat_natCast,List.take_length,zAB,zAS,zAE,List.drop_zero]
  by_cases hx:s.drop (s.length - 1)=[c]
  ·rw [if_pos hx,zAB]
   refine ⟨_,_,rfl,fun _=>?_,fun h=>by cases h⟩
   rw [← hx,hsp]
  ·rw [if_neg hx,zAB]
   refine ⟨_,_,rfl,(fun h=>by cases h),fun _ u hu=>hx ?_⟩
   rw [hu]
   simp
theorem n122 (s:List UInt8) (hl:s.length≤1048576):F122 s=some (decide (Tok s)):=by
 simp only [F122,F115,n204 s 76 hl,zAB]
 cases s with
 | nil =>
   obtain ⟨t,b,e,h1,h2⟩:=n205 [] 59 (by simp)
   rw [e]
   simp [zDG]
 | cons x l =>
   by_cases hx:x=76
   ·simp only [hx,if_true]
    have hll:l.length≤1048576:=by simp only [List.length_cons] at hl;omega
    obtain ⟨t,b,e,h1,h2⟩:=n205 l 59 hll
    rw [e]
    cases b with
    | true =>
      have h1:=h1 rfl
      have htl:t.length≤1048576:=by rw [h1,List.length_append] at hll;omega
      simp only [zAB,zAJ,n48 t htl,zAE]
      by_cases hn:Nm t
      ·rw [if_pos hn,eq_comm]
       simp only [Option.some.injEq,decide_eq_true_eq]
       exact .inr ⟨t,hn,by rw [h1]⟩
      ·rw [if_neg hn]
       congr 1
       rw [decide_eq_decide]
       refine ⟨fun h=>.inl h,fun h=>?_⟩
       rcases h with h | ⟨n,hm,h⟩
       ·exact h
       ·simp only [List.cons.injEq,true_and] at h
        rw [h1] at h
        have:=List.append_cancel_right h
        rw [this] at hn
        exact absurd hm hn
    | false =>
      have h2:=h2 rfl
      simp only [zAB,zAJ,zAK]
      congr 1
      rw [decide_eq_decide]
      refine ⟨fun h=>.inl h,fun h=>?_⟩
      rcases h with h | ⟨n,hm,h⟩
      ·exact h
      ·simp only [List.cons.injEq,true_and] at h
       exact absurd h (h2 n)
   ·simp only [hx,if_false]
    obtain ⟨t,b,e,h1,h2⟩:=n205 (x :: l) 59 hl
    rw [e]
    simp only [zAB,zAK]
    congr 1
    rw [decide_eq_decide]
    refine ⟨fun h=>.inl h,fun h=>?_⟩
    rcases h with h | ⟨n,hm,h⟩
    ·exact h
    ·simp only [List.cons.injEq] at h
     exact absurd h.1 hx
theorem n289 (s:List UInt8) (c:UInt8):F289 (s,(c.toNat:Int))=some (Lib.indexByte s c):=by
 simp only [F289,F322,zAB,Int.toNat_natCast]
 rw [show c.toNat.toUInt8=c from UInt8.ofNat_toNat]
theorem n239 (s:List UInt8):F239 (s,59)=some (Lib.indexByte s 59):=by
 simp only [F239]
 rw [show ((59:Int))=(((59:UInt8).toNat:Nat):Int) from rfl,n289,zAB]
theorem n238 (s:List UInt8) (hl:s.length≤1048576):F238 s=some (match cut 41 s with | some (a,b)=>(a,b,true) | none=>(s,[],false)):=by
 have e321:F321 s=some (Lib.indexByte s 41):=by
  simp only [F321,zAC,zAE,decide_true,zAJ]
  have hat:∀ k:UInt8→Option Int,atO [41] 0 k=k 41:=fun k=>rfl
  rw [hat,n289 s 41,zAB]
  by_cases h:([41]:List UInt8)=s
  ·rw [if_pos h,← h];rfl
  ·rw [if_neg h];rfl
 simp only [F238,F288,e321,zAB,zAE]
 cases hc:cut 41 s with
 | none =>
   rw [zMq (zHO.1 hc),if_neg (by omega)]
   rfl
 | some p =>
   obtain ⟨a,b⟩:=p
   obtain ⟨h1,h2⟩:=zFv hc
   have hlen:s.length=a.length+(b.length+1):=by rw [h1];simp
   rw [show Lib.indexByte s 41=(a.length:Int) by rw [h1];exact zHL h2]
   have g0:(0:Int)≤a.length:=by omega
   have g1:(a.length:Int)≤s.length:=by omega
   have g2:(0:Int)≤(a.length:Int)+1:=by omega
   have g3:(a.length:Int)+1≤s.length:=by omega
   have ht:((a.length:Int)+1).toNat=a.length+1:=by omega
   have hta:s.take a.length=a:=by rw [h1];simp
   have hda:s.drop (a.length+1)=b:=by rw [h1];simp
   simp (discharger:=omega) only [g0,g1,g2,g3,wI,if_true,decide_true,Bool.and_self,zAG,zAV,Int.le_refl,Int.toNat_natCast,ht,List.take_length,hta,hda,List.drop_zero,zAB]
theorem zUm {X Y R:Type} {f:X→Option (X ⊕ (Y ⊕ R))} {k:Y→Option R} (mk:List (List UInt8)→List UInt8→X) (bad:R) (good:List (List UInt8)→R)
  (hend:∀ out,bindE (zAF f (mk out [])) k=some (good out))
  (hbad:∀ out x l,(x :: l).length≤1048576→(one (x :: l)=none∨out.length=4)→bindE (zAF f (mk out (x :: l))) k=some bad)
  (hstep:∀ out x l t r,(x :: l).length≤1048576→one (x :: l)=some (t,r)→out.length<4→f (mk out (x :: l))=some (.inl (mk (out++[t]) r))) :
  ∀ (n:Nat) (s:List UInt8) (out:List (List UInt8)),s.length≤1048576→out.length+n=4→bindE (zAF f (mk out s)) k=some (match mr n s with | some ts=>good (out++ts) | none=>bad):=by
 intro n
 induction n with
 | zero =>
   intro s out hs ho
   cases s with
   | nil=>rw [hend];simp only [mr,List.append_nil]
   | cons x l=>rw [hbad out x l hs (.inr (by omega))];rfl
 | succ n ih =>
   intro s out hs ho
   cases s with
   | nil=>rw [hend];simp only [mr,List.append_nil]
   | cons x l =>
     rw [zVJ]
     cases hone:one (x :: l) with
     | none=>rw [hbad out x l hs (.inl hone)];rfl
     | some p =>
       obtain ⟨t,r⟩:=p
       have hle:r.length≤1048576:=by
        have:=congrArg List.length (zCB hone).1
        rw [List.length_append] at this
        omega
       rw [zCn (hstep out x l t r hs hone (by omega)),ih r (out++[t]) hle (by simp;omega)]
       simp only [Option.bind_some]
       cases mr n r with
       | none=>rfl
       | some q=>simp only [Option.map_some,List.append_assoc,List.singleton_append]
noncomputable def stop (x:UInt8) (l:List UInt8):Nat:=if x=73 then 1 else (Lib.indexByte (x :: l) 59+1).toNat
theorem zUa (x:UInt8) (l:List UInt8):stop x l≤(x :: l).length∧((Lib.indexByte (x :: l) 59+1:Int)=((Lib.indexByte (x :: l) 59+1).toNat:Int))∧(Lib.indexByte (x :: l) 59+1).toNat≤(x :: l).length:=by
 have h:(Lib.indexByte (x :: l) 59+1).toNat≤(x :: l).length:=by
  cases hc:cut 59 (x :: l) with
  | none=>rw [zMq (zHO.1 hc)];simp
  | some p =>
    obtain ⟨a,b⟩:=p
    obtain ⟨h1,h2⟩:=zFv hc
    rw [h1,zHL h2]
    simp
 have:=Lib.indexByte_ge (x :: l) 59
 refine ⟨?_,by omega,h⟩
 unfold stop
 split
 ·simp
 ·exact h
theorem zSQ (x:UInt8) (l:List UInt8):(Tok ((x :: l).take (stop x l))→one (x :: l)=some ((x :: l).take (stop x l),(x :: l).drop (stop x l)))∧(¬ Tok ((x :: l).take (stop x l))→one (x :: l)=none):=by
 constructor
 ·intro h
  have:=zMf h ((x :: l).drop (stop x l))
  rwa [List.take_append_drop] at this
 ·intro h
  rw [zMg]
  intro t r e ht
  have h0:=ht
  rcases ht with rfl | ⟨n,hn,rfl⟩
  ·have hx:x=73:=by simp at e;exact e.1
   rw [show stop x l=1 by unfold stop;rw [if_pos hx]] at h
   apply h
   rw [e]
   exact h0
  ·have e2:x :: l=(76 :: n)++59 :: r:=by rw [e];simp
   have hx:x=76:=by simp at e;exact e.1
   have hno:(59:UInt8) ∉ 76 :: n:=by
    have:=hn.no 59 no59
    simp [this]
   apply h
   have hs:stop x l=(76 :: n).length+1:=by
    unfold stop
    rw [if_neg (by rw [hx];decide),e2,zHL hno]
    omega
   rw [hs,e2]
   have:((76 :: n)++59 :: r).take ((76 :: n).length+1)=76 :: (n++[59]):=by
    rw [show (76 :: n)++59 :: r=(76 :: (n++[59]))++r by simp,show (76 :: n).length+1=(76 :: (n++[59])).length by simp]
    exact List.take_left' rfl
   rw [this]
   exact h0
theorem n170 (s:List UInt8) (hl:s.length≤1048576):F170 s=some (dsc s):=by
 simp only [F170,n238 s hl,zAB]
 cases hc:cut 41 s with
 | none =>
   simp only [zAS,zAK,n204 s 40 hl]
   have:dsc s=([],[],false):=by
    cases s with
    | nil=>rfl
    | cons x l =>
      rw [zHN]
      have h41:=zHO.1 hc
      simp only [List.mem_cons,not_or] at h41
      rw [zPb 4 l h41.2]
      split <;> rfl
   rw [this]
   cases s with
   | nil=>rfl
   | cons x l=>by_cases hx:x=40 <;> simp only [hx,if_true,if_false,zAB,zAH]
 | some p =>
   obtain ⟨a,b⟩:=p
   obtain ⟨h1,h2⟩:=zFv hc
   have hal:a.length≤1048576:=by rw [h1,List.length_append] at hl;omega
   have hbl:b.length≤1048576:=by rw [h1,List.length_append,List.length_cons] at hl;omega
   simp only [n204 a 40 hal,zAB]
   cases a with
   | nil =>
     simp only [zAS,zAJ,zAK,zAH]
     rw [h1,List.nil_append,zHN,if_neg (by decide)]
   | cons x l =>
     rw [h1,List.cons_append,zHN]
     by_cases hx:x=40
     ·have hno:(41:UInt8) ∉ l:=fun hm=>h2 (by simp [hm])
      have hll:l.length≤1048576:=by simp only [List.length_cons] at hal;omega
      rw [if_pos hx,zSj 4 l b hno]
      simp only [hx,if_true,zAS,zAJ,zAE,n122 b hbl,zAB]
      by_cases hb:b=[86]∨Tok b
      ·have hgo:∀ A B:Option ((List UInt8×List UInt8) ⊕ (List (List UInt8)×List UInt8×Bool)),(if b=[86] then A else (if Tok b then A else B))=A:=by
        intro A B
        rcases hb with hb | hb
        ·rw [if_pos hb]
        ·rw [if_pos hb];split <;> rfl
       rw [hgo,zAC]
       simp only
       refine (zUm (fun out rest=>(b,rest,out)) ([],[],false) (fun ts=>(ts,b,true)) ?_ ?_ ?_ 4 l [] hll rfl).trans ?_
       ·intro out
        rw [zAj (y:=.inl (b,out)) (by simp only [if_true])]
        rfl
       ·intro out x l hs hh
        have hne:¬ (x :: l=[]):=by simp
        obtain ⟨s1,s2,s3⟩:=zUa x l
        obtain ⟨k1,k2⟩:=zSQ x l
        rw [zAj (y:=.inr ([],[],false))]
        ·rfl
        ·simp only [hne,if_false,atO,List.getElem?_cons_zero,u73,n239,zAB]
         rw [show IntKind.wrap .i64 (Lib.indexByte (x :: l) 59+1)=((Lib.indexByte (x :: l) 59+1).toNat:Int) by rw [wI (by omega) (by omega)];exact s2]
         rw [show (if x=73 then some (Sum.inl (b,x :: l,out,(1:Int))) else some (Sum.inl (b,x :: l,out,((Lib.indexByte (x :: l) 59+1).toNat:Int))):Option ((List UInt8×List UInt8×List (List UInt8)×Int) ⊕ ((List UInt8×List UInt8×List (List UInt8)) ⊕ ((List UInt8×List (List UInt8)) ⊕ (List (List UInt8)×List UInt8×Bool)))))=some (Sum.inl (b,x :: l,out,(stop x l:Int))) by unfold stop;split <;> rfl]
         have g0:(0:Int)≤(stop x l:Int):=by omega
         have g1:(stop x l:Int)≤((x :: l).length:Int):=by omega
         have hb1:((x :: l).take (stop x l)).length≤1048576:=by simp only [List.length_take];omega
         simp only [zAC,g0,g1,decide_true,Bool.and_self,zAG,Int.toNat_natCast,List.drop_zero,n122 _ hb1,zAB,zAE]
         by_cases htk:Tok ((x :: l).take (stop x l))
         ·rw [if_pos htk]
          have h4:(out.length:Int)=4:=by
           rcases hh with hh | hh
           ·rw [k1 htk] at hh;cases hh
           ·omega
          rw [if_pos h4,zAH]
         ·rw [if_neg htk,zAH]
       ·intro out x l t r hs ho hlt
        have hne:¬ (x :: l=[]):=by simp
        obtain ⟨s1,s2,s3⟩:=zUa x l
        obtain ⟨k1,k2⟩:=zSQ x l
        simp only [hne,if_false,atO,List.getElem?_cons_zero,u73,n239,zAB]
        rw [show IntKind.wrap .i64 (Lib.indexByte (x :: l) 59+1)=((Lib.indexByte (x :: l) 59+1).toNat:Int) by rw [wI (by omega) (by omega)];exact s2]
        rw [show (if x=73 then some (Sum.inl (b,x :: l,out,(1:Int))) else some (Sum.inl (b,x :: l,out,((Lib.indexByte (x :: l) 59+1).toNat:Int))):Option ((List UInt8×List UInt8×List (List UInt8)×Int) ⊕ ((List UInt8×List UInt8×List (List UInt8)) ⊕ ((List UInt8×List (List UInt8)) ⊕ (List (List UInt8)×List UInt8×Bool)))))=some (Sum.inl (b,x :: l,out,(stop x l:Int))) by unfold stop;split <;> rfl]
        have g0:(0:Int)≤(stop x l:Int):=by omega
        have g1:(stop x l:Int)≤((x :: l).length:Int):=by omega
        have hb1:((x :: l).take (stop x l)).length≤1048576:=by simp only [List.length_take];omega
        simp only [zAC,g0,g1,decide_true,Bool.and_self,zAG,Int.toNat_natCast,List.drop_zero,n122 _ hb1,zAB,zAE]
        have htk:Tok ((x :: l).take (stop x l)):=Classical.byContradiction fun hn=>by rw [k2 hn] at ho;cases ho
        have h4:¬ (out.length:Int)=4:=by omega
        have q5:out.length+1≤9223372036854775807:=by omega
        have q6:(out.length+1)*16≤140737488355328:=by omega
        rw [if_pos htk,if_neg h4,zAC]
        rw [k1 htk] at ho
        simp only [Option.some.injEq,Prod.mk.injEq] at ho
        simp only [g0,g1,q5,q6,Int.le_refl,decide_true,Bool.and_self,zAG,Int.toNat_natCast,List.take_length,List.drop_zero,ho.1,ho.2]
       ·cases mr 4 l with
        | none=>rfl
        | some ts=>simp only [List.nil_append,Option.map_some,fin3,if_pos hb]
      ·have hb1:¬ b=[86]:=fun h=>hb (.inl h)
       have hb2:¬ Tok b:=fun h=>hb (.inr h)
       simp only [hb1,hb2,if_false,zAH]
       cases mr 4 l with
       | none=>rfl
       | some ts=>simp only [Option.map_some,fin3,if_neg hb]
     ·rw [if_neg hx]
      simp only [hx,if_false,zAS,zAJ,zAK,zAH]
end Go.Proofs.YtdpapeledldifaaGreat
end
