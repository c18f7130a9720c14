/- Part 34 of the proof that the law FnCheck holds of every input; no condition. -/
import Derived.Test.YtdpapeledldifaaGreatX32
set_option autoImplicit true
set_option relaxedAutoImplicit true
set_option linter.all false
section
namespace Go.Stow
def bndP (p:List Ent):Prop:=p.length≤1048576∧∀ x∈p,x.2.1.length≤1048576
theorem bndP.at {p:List Ent} (h:bndP p) (i:Int):(zAU p i).2.1.length≤1048576:=by
 unfold zAU
 split
 ·rename_i hi
  rw [List.getElem?_eq_getElem (by omega)]
  exact h.2 _ (List.getElem_mem _)
 ·simp
end Go.Stow
namespace Go.Proofs.YtdpapeledldifaaGreat
open Go Go.AM Go.TM Go.Stow
theorem n113 (s:List UInt8) (hl:s.length≤1048576):F113 s=some (decide (Dsc s)):=by
 simp only [F113,n170 s hl,zAB]
 congr 1
 rw [Bool.eq_iff_iff,decide_eq_true_iff]
 exact Iff.rfl
noncomputable instance (s:List UInt8):Decidable (zNM s):=Classical.propDecidable _
theorem n121 (s:List UInt8) (hl:s.length≤1048576):F121 s=some (decide (zNM s)):=by
 simp only [F121,n122 s hl,n113 s hl,zAB,zAE]
 by_cases h:Tok s
 ·rw [if_pos h,eq_comm];simp only [Option.some.injEq,decide_eq_true_eq];exact .inl h
 ·rw [if_neg h];congr 1;rw [decide_eq_decide]
  exact ⟨fun h=>.inr h,fun h'=>h'.resolve_left h⟩
theorem q215 (p:List Cst) (i:Int) (hp:p.length≤1048576):F215 (p,i)=some (zAU p i):=by
 simp only [F215,q107,zAB,zAE]
 unfold zAU
 by_cases h:1≤i∧i≤p.length
 ·rw [if_pos h,if_pos h]
  have h1:(0:Int)≤i - 1:=by omega
  rw [wI (by omega) (by omega),zAW h1,zAL (by omega),List.getElem?_eq_getElem (by omega)]
  rfl
 ·rw [if_neg h,if_neg h]
theorem q124 (p:List Cst) (i:Int) (hp:p.length≤1048576):F124 (p,i)=some (zAU p i):=by
 simp only [F124,q89,zAB,zAS,zAE]
 unfold zAU
 by_cases h:1≤i∧i≤p.length
 ·rw [if_pos h,if_pos h]
  have h1:(0:Int)≤i - 1:=by omega
  rw [wI (by omega) (by omega),zAW h1,zAL (by omega),List.getElem?_eq_getElem (by omega)]
  rfl
 ·rw [if_neg h,if_neg h]
theorem zBj {R:Type} {r:Option Cst} {e:Cst} (h:r=some e) (k:Cst→Option R):zAA r k=k (e.1,e.2.1,e.2.2.1,e.2.2.2):=by rw [h];rfl
theorem q131 (p:List Cst) (i:Int) (hp:bndP p):F131 (p,i)=some (txt p i):=by
 simp only [F131]
 rw [zBj (q215 p i hp.1)]
 simp only [zAS,zAE,txt]
 split <;> rfl
theorem zDB {p:List Cst} (h:bndP p) (i:Int):(txt p i).length≤1048576:=by
 unfold txt
 split
 ·exact h.at i
 ·simp
theorem q130 (p:List Cst) (i:Int) (hp:bndP p):F130 (p,i)=some (clsN p i):=by
 simp only [F130]
 rw [zBj (q215 p i hp.1)]
 simp only
 rw [zBj (q215 p _ hp.1)]
 simp only [zAS,zAE,n127 _ (hp.at _),zAB,clsN]
 by_cases h1:(zAU p i).1=2
 ·by_cases h2:(zAU p (zAU p i).2.2.1).1=1
  ·by_cases h3:Nm (zAU p (zAU p i).2.2.1).2.1
   ·rw [if_pos h1,if_pos h2,if_pos h3,if_pos ⟨h1,h2,h3⟩]
   ·rw [if_pos h1,if_pos h2,if_neg h3,if_neg fun h=>h3 h.2.2]
  ·rw [if_pos h1,if_neg h2,if_neg fun h=>h2 h.2.1]
 ·rw [if_neg h1,if_neg fun h=>h1 h.1]
theorem q132 (p:List Cst) (i:Int) (hp:bndP p):F132 (p,i)=some (clsN p (zAU p i).2.2.1,txt p (zAU p (zAU p i).2.2.2).2.2.1,txt p (zAU p (zAU p i).2.2.2).2.2.2):=by
 simp only [F132]
 rw [zBj (q215 p i hp.1)]
 simp only
 rw [zBj (q215 p _ hp.1)]
 simp only [q130 p _ hp,q131 p _ hp,zAB,eq_self,decide_true,zAG,zAV]
theorem q133 (p:List Cst) (i k:Int) (hp:bndP p):F133 (p,i,k)=some (decide ((zAU p i).1=k)):=by
 simp only [F133]
 rw [zBj (q215 p i hp.1)]
theorem zNK {p:List Cst} {i:Int} {Q:List UInt8→Prop} [Decidable (Q (zAU p i).2.1)]:(if (zAU p i).1=1 then some (decide (Q (zAU p i).2.1)) else some false:Option Bool)=some (decide (zAu p i Q)):=by
 by_cases h:(zAU p i).1=1
 ·rw [if_pos h];congr 1;rw [decide_eq_decide];exact ⟨fun h'=>⟨h,h'⟩,fun h'=>h'.2⟩
 ·rw [if_neg h,eq_comm];simp only [Option.some.injEq,decide_eq_false_iff_not];exact fun h'=>h h'.1
theorem zSb (p:List Cst) (i:Int) (hp:bndP p):F49126 (p,i)=some (decide (zAu p i Nm)):=by
 simp only [F49126]
 rw [zBj (q124 p i hp.1)]
 simp only [n48 _ (hp.at i),zAB,zAE]
 exact zNK
theorem q122126 (p:List Cst) (i:Int) (hp:bndP p):F122126 (p,i)=some (decide (zAu p i zNM)):=by
 simp only [F122126]
 rw [zBj (q124 p i hp.1)]
 simp only [n121 _ (hp.at i),zAB,zAE]
 exact zNK
theorem zUr (p:List Cst) (i:Int) (hp:bndP p):F123126 (p,i)=some (decide (zAu p i Tok)):=by
 simp only [F123126]
 rw [zBj (q124 p i hp.1)]
 simp only [n122 _ (hp.at i),zAB,zAE]
 exact zNK
theorem zUs (p:List Cst) (i:Int) (hp:bndP p):F114126 (p,i)=some (decide (zAu p i Dsc)):=by
 simp only [F114126]
 rw [zBj (q124 p i hp.1)]
 simp only [n113 _ (hp.at i),zAB,zAE]
 exact zNK
theorem q125 (p:List Cst) (i:Int) (hp:bndP p):F125 (p,i)=some (decide (zBS p i)):=by
 simp only [F125]
 rw [zBj (q124 p i hp.1)]
 simp only [zSb p _ hp,zAB,zAE]
 by_cases h:(zAU p i).1=2
 ·rw [if_pos h];congr 1;rw [decide_eq_decide];exact ⟨fun h'=>⟨h,h'⟩,fun h'=>h'.2⟩
 ·rw [if_neg h,eq_comm];simp only [Option.some.injEq,decide_eq_false_iff_not];exact fun h'=>h h'.1
theorem sd {P:Prop} [Decidable P]:∀ {b:Bool},(b=true↔P)→some b=some (decide P):=by
 intro b h
 congr 1
 rw [Bool.eq_iff_iff,h,decide_eq_true_iff]
theorem q123123 (p:List Cst) (x:Cst) (hp:bndP p):F123123 (p,x)=some (decide (x.2.1=[]∧zBS p x.2.2.1∧(zAU p x.2.2.2).1=3∧zAu p (zAU p x.2.2.2).2.2.2 Tok),p,x):=by
 obtain ⟨x0,x1,x2,x3⟩:=x
 simp only [F123123]
 rw [zBj (q124 p x3 hp.1)]
 simp only [q125 p _ hp,zUr p _ hp,zAB,zAE]
 by_cases h1:x1=[] <;> by_cases h2:zBS p x2 <;> by_cases h3:(zAU p x3).1=3 <;> simp [h1,h2,h3]
theorem q114123 (p:List Cst) (x:Cst) (hp:bndP p):F114123 (p,x)=some (decide (x.2.1=[]∧zBS p x.2.2.1∧(zAU p x.2.2.2).1=3∧zAu p (zAU p x.2.2.2).2.2.2 Dsc),p,x):=by
 obtain ⟨x0,x1,x2,x3⟩:=x
 simp only [F114123]
 rw [zBj (q124 p x3 hp.1)]
 simp only [q125 p _ hp,zUs p _ hp,zAB,zAE]
 by_cases h1:x1=[] <;> by_cases h2:zBS p x2 <;> by_cases h3:(zAU p x3).1=3 <;> simp [h1,h2,h3]
theorem q52 (p:List Cst) (x:Cst) (hp:bndP p) (hx:x.2.1.length≤1048576):F52 (p,x)=some (decide (zCk p x)):=by
 obtain ⟨x0,x1,x2,x3⟩:=x
 simp only at hx
 simp only [F52,q123123 p _ hp,q114123 p _ hp,zSb p _ hp,q122126 p _ hp,n48 _ hx,n121 _ hx,zAB,zAE]
 unfold zCk
 simp only
 by_cases h1:x0=1
 ·by_cases h2:x2=0
  ·by_cases h3:x3=0
   ·by_cases h4:Nm x1
    ·simp [h1,h2,h3,h4]
    ·simp [h1,h2,h3,h4]
   ·simp [h1,h2,h3]
  ·simp [h1,h2]
 ·by_cases h2:x0=2
  ·by_cases h3:x1=[]
   ·by_cases h4:x3=0 <;> simp [h2,h3,h4]
   ·simp [h2,h3]
  ·by_cases h3:x0=3
   ·by_cases h4:x1=[]
    ·by_cases h5:zAu p x2 Nm <;> simp [h3,h4,h5]
    ·simp [h3,h4]
   ·by_cases h4:x0=4
    ·simp [h4]
    ·by_cases h5:x0=5
     ·simp [h5]
     ·by_cases h6:x0=6
      ·simp [h6]
      ·simp [h1,h2,h3,h4,h5,h6]
theorem q53 (p:List Cst) (i:Nat) (hp:bndP p) (hi:i<p.length):F53 (p,(i:Int))=some (decide (zCk p p[i])):=by
 have h0:(0:Int)≤i:=by omega
 have hw:IntKind.wrap .i64 ((i:Int)+1)=(i:Int)+1:=by have:=hp.1;exact wI (by omega) (by omega)
 have hx:p[i].2.1.length≤1048576:=hp.2 _ (List.getElem_mem hi)
 have he:=zVq hi
 simp only [F53,h0,decide_true,zAG,Int.toNat_natCast,hw]
 rw [zAL hi]
 simp only [q130 p _ hp,q131 p _ hp,q132 p _ hp,q133 p _ _ hp,q107,he,n127 _ hx,n128 _ hx,n129 _ hx,n127 _ (zDB hp _),n128 _ (zDB hp _),n129 _ (zDB hp _),zAB,zAS,zAE]
 generalize hxe:p[i]=x at he
 obtain ⟨x0,x1,x2,x3⟩:=x
 rw [hxe] at hx
 simp only at hx ⊢
 by_cases e1:x0=1
 ·subst e1
  by_cases h2:x2=0 <;> by_cases h3:x3=0 <;> by_cases h4:Nm x1 <;> by_cases h5:Tok x1 <;> simp only [h2,h3,h4,h5,if_true,if_false] <;> exact sd (by unfold zCk;simp [*,zNM])
 rw [if_neg e1]
 by_cases e2:x0=2
 ·have hc:clsN p ((i:Int)+1)=[]↔¬ zAu p x2 Nm:=by
   rw [← Classical.not_not (a:=clsN p ((i:Int)+1)=[]),not_congr]
   show clsN p ((i:Int)+1)≠[]↔_
   rw [zDL];unfold zBS;rw [he];simp [e2]
  subst e2
  by_cases h3:x1=[] <;> by_cases h4:x3=0 <;> by_cases h5:zAu p x2 Nm <;> simp only [h3,h4,if_true,if_false] <;> exact sd (by unfold zCk;simp [*])
 rw [if_neg e2]
 by_cases e3:x0=3
 ·have h6:Nm (txt p x2)↔zAu p x2 Nm:=zGZ zGO
  have h7:Tok (txt p x3)∨Dsc (txt p x3)↔zAu p x3 zNM:=zGZ (Q:=zNM) zMj
  subst e3
  by_cases h3:x1=[] <;> by_cases h4:Nm (txt p x2) <;> by_cases h5:Tok (txt p x3) <;> by_cases h8:Dsc (txt p x3) <;> simp only [h3,h4,h5,h8,if_true,if_false] <;> exact sd (by unfold zCk;rw [← h6,← h7];clear h6 h7 he hxe;simp [*])
 rw [if_neg e3]
 have hc:clsN p x2=[]↔¬ zBS p x2:=by
  rw [← Classical.not_not (a:=clsN p x2=[]),not_congr]
  exact zDL
 by_cases e4:4≤x0∧x0≤6
 ·rw [if_pos e4]
  by_cases h3:x1=[]
  ·rw [if_pos h3]
   by_cases h4:clsN p x2=[]
   ·rw [if_pos h4,zAH]
    have:=hc.1 h4
    exact sd (by unfold zCk;simp [*])
   ·rw [if_neg h4]
    have hcl:zBS p x2:=Classical.byContradiction fun h=>h4 (hc.2 h)
    by_cases h5:(zAU p x3).1=3
    ·rw [if_pos h5,zAC]
     simp only [n128 _ (zDB hp _),n129 _ (zDB hp _),zAB]
     have h6:Tok (txt p (zAU p x3).2.2.2)↔zAu p (zAU p x3).2.2.2 Tok:=zGZ zDG
     have h7:Dsc (txt p (zAU p x3).2.2.2)↔zAu p (zAU p x3).2.2.2 Dsc:=zGZ zFN
     by_cases h8:x0=4
     ·rw [if_pos h8]
      exact sd (by unfold zCk;rw [decide_eq_true_iff,h6];simp [*])
     ·rw [if_neg h8]
      have h9:x0=5∨x0=6:=by omega
      exact sd (by unfold zCk;rw [decide_eq_true_iff,h7];simp [*])
    ·rw [if_neg h5,zAH]
     exact sd (by unfold zCk;simp [*])
  ·rw [if_neg h3,zAH]
   exact sd (by unfold zCk;simp [*])
 ·rw [if_neg e4,zAH]
  have h8:¬ x0=4:=by omega
  have h9:¬ x0=5:=by omega
  have h10:¬ x0=6:=by omega
  exact sd (by unfold zCk;simp [*])
theorem q15 (p:List Cst) (hp:bndP p) (h60:p.length≤60):F15 p=some (zBl p p.length 0):=by
 simp only [F15,zAE,zAS]
 have h61:¬ (60:Int)<p.length:=by omega
 suffices h:∀ (m i:Nat),i+m=p.length→∀ k:List Cst→Option Int,k p=some 0→bindE (zAF (fun (x:List Cst×Int) =>
   bindE (if x.2<(x.1.length:Int) then if x.2<60 then some (Sum.inl (x.1,x.2)) else some (Sum.inr (Sum.inr (Sum.inl x.1))) else some (Sum.inr (Sum.inr (Sum.inl x.1)))) fun (pool2,i1) =>
   zAA (F53 (pool2,i1)) fun y =>
   cndO y (some (Sum.inl (pool2,IntKind.wrap .i64 (i1+1)))) (some (Sum.inr (Sum.inr (IntKind.wrap .i64 (i1+1)))))) (p,(i:Int))) k=some (zBl p m i) by
  refine h p.length 0 (by omega) _ ?_
  rw [if_neg h61]
 intro m
 induction m with
 | zero =>
   intro i hi k hk
   have h1:¬ (i:Int)<p.length:=by omega
   rw [zAj (y:=.inl p) (by simp only [h1,if_false,zAH]),zAC,hk]
   rfl
 | succ m ih =>
   intro i hi k hk
   have h1:(i:Int)<p.length:=by omega
   have h2:(i:Int)<60:=by omega
   have hlt:i<p.length:=by omega
   unfold zBl
   rw [dif_pos hlt]
   by_cases he:zCk p p[i]
   ·rw [if_pos he,← ih (i+1) (by omega) k hk,zCn]
    simp only [h1,h2,if_true,zAC,q53 p i hp hlt,zAB,he,decide_true,zAJ]
    rw [wI (by omega) (by omega)]
    rfl
   ·rw [if_neg he,zAj (y:=.inr ((i:Int)+1)),zAH]
    simp only [h1,h2,if_true,zAC,q53 p i hp hlt,zAB,he,decide_false,zAK]
    rw [wI (by omega) (by omega)]
theorem q14 (p:List Cst) (hp:bndP p) (h60:p.length≤60):F14 p=some (zBl p p.length 0):=by
 simp only [F14,zAE,zAS]
 suffices h:∀ (m i:Nat),i+m=p.length→bindE (zAF (fun (x:List Cst×List Cst×Int×Int) =>
   if x.2.2.2<x.2.2.1 then
    grdO (decide ((0:Int)≤x.2.2.2)) (atO x.2.1 (Int.toNat x.2.2.2) fun y=>if x.2.2.2=60 then some (Sum.inr (Sum.inr (61:Int))) else
     zAA (F52 (x.1,y.1,y.2.1,y.2.2.1,y.2.2.2)) fun z =>
     cndO z (some (Sum.inl (x.1,x.2.1,x.2.2.1,IntKind.wrap .i64 (x.2.2.2+1)))) (some (Sum.inr (Sum.inr (IntKind.wrap .i64 (x.2.2.2+1))))))
   else some (Sum.inr (Sum.inl ()))) (p,p,(p.length:Int),(i:Int))) (fun _:Unit=>some (0:Int))=some (zBl p m i) by
  exact h p.length 0 (by omega)
 intro m
 induction m with
 | zero =>
   intro i hi
   have h1:¬ (i:Int)<p.length:=by omega
   rw [zAj (y:=.inl ()) (by simp only [h1,if_false]),zAC]
   rfl
 | succ m ih =>
   intro i hi
   have h1:(i:Int)<p.length:=by omega
   have h0:(0:Int)≤i:=by omega
   have h2:¬ (i:Int)=60:=by omega
   have hlt:i<p.length:=by omega
   have hq:=q52 p p[i] hp (hp.2 _ (List.getElem_mem hlt))
   unfold zBl
   rw [dif_pos hlt]
   by_cases he:zCk p p[i]
   ·rw [if_pos he,← ih (i+1) (by omega),zCn]
    simp (discharger:=assumption) only [h1,h2,h0,if_true,if_false,decide_true,zAG,Int.toNat_natCast,zAL,hq,zAB,he,zAJ]
    rw [wI (by omega) (by omega)]
    rfl
   ·rw [if_neg he,zAj (y:=.inr ((i:Int)+1)),zAH]
    simp (discharger:=assumption) only [h1,h2,h0,if_true,if_false,decide_true,zAG,Int.toNat_natCast,zAL,hq,zAB,he,decide_false,zAK]
    rw [wI (by omega) (by omega)]
end Go.Proofs.YtdpapeledldifaaGreat
end
section
namespace Go.TM
open Go.AM
section
variable {α X Y R S:Type}
theorem zBP {l:List α} {n:Nat} {k:α→Option R} (d:α) (h:n<l.length):atO l n k=k (l.getD n d):=by
 rw [zAL h,List.getD_eq_getElem?_getD,List.getElem?_eq_getElem h];rfl
theorem zVy {f:X→Option (X ⊕ (Y ⊕ R))} (F:Option R→Option S) (mk:Nat→X) (fin:Y) (no:R) (n:Nat) (q:Nat→Prop) {x0:X} {k:Y→Option R} {P:Prop} {A B:Option S} (hx:x0=mk 0)
  (hend:f (mk n)=some (.inr (.inl fin)))
  (hstep:∀ i,i<n→(q i∧f (mk i)=some (.inl (mk (i+1))))∨(¬ q i∧f (mk i)=some (.inr (.inr no))))
  (hP:P↔∀ i,i<n→q i) (hA:F (k fin)=A) (hB:F (some no)=B) :
  (P∧F (bindE (zAF f x0) k)=A)∨(¬ P∧F (bindE (zAF f x0) k)=B):=by
 have key:∀ r,((∀ i,i<n→q i)→k fin=r)→(¬ (∀ i,i<n→q i)→some no=r)→bindE (zAF f x0) k=r:=fun r h1 h2 =>
  zGD mk fin no n q hx hend (fun i h hq=>(hstep i h).elim (fun h=>h.2) fun h=>absurd hq h.1) (fun i h hq=>(hstep i h).elim (fun h=>absurd h.1 hq) fun h=>h.2) h1 h2
 by_cases h:∀ i,i<n→q i
 ·exact .inl ⟨hP.2 h,by rw [key (k fin) (fun _=>rfl) (fun h'=>absurd h h'),hA]⟩
 ·exact .inr ⟨fun hp=>h (hP.1 hp),by rw [key (some no) (fun h'=>absurd h' h) (fun _=>rfl),hB]⟩
theorem zFV {f:X→Option (X ⊕ (Y ⊕ R))} (mk:Nat→X) (fin:Y) (no:R) (n:Nat) (q:Nat→Prop) {x0:X} {k:Y→Option R} {r:Option R} (hx:x0=mk 0)
  (hend:f (mk n)=some (.inr (.inl fin)))
  (hstep:∀ i,i<n→(q i∧f (mk i)=some (.inl (mk (i+1))))∨(¬ q i∧f (mk i)=some (.inr (.inr no))))
  (hk:(∀ i,i<n→q i)→k fin=r) (hno:¬ (∀ i,i<n→q i)→some no=r):bindE (zAF f x0) k=r :=
 zGD mk fin no n q hx hend (fun i h hq=>(hstep i h).elim (fun h=>h.2) fun h=>absurd hq h.1) (fun i h hq=>(hstep i h).elim (fun h=>absurd h.1 hq) fun h=>h.2) hk hno
theorem any_r {f:X→Option (X ⊕ (Y ⊕ R))} (mk:Nat→X) (fin:Y) (g:Nat→R) (n:Nat) (q:Nat→Prop) {x0:X} {k:Y→Option R} (hx:x0=mk 0)
  (hend:f (mk n)=some (.inr (.inl fin)))
  (hstep:∀ i,i<n→(q i∧f (mk i)=some (.inr (.inr (g i))))∨(¬ q i∧f (mk i)=some (.inl (mk (i+1))))) :
  ((∀ i,i<n→¬ q i)∧bindE (zAF f x0) k=k fin)∨(∃ i,i<n∧q i∧bindE (zAF f x0) k=some (g i)):=by
 have key:∀ (m i:Nat),i+m=n→((∀ j,i≤j→j<n→¬ q j)∧zAF f (mk i)=some (.inl fin))∨(∃ j,j<n∧q j∧zAF f (mk i)=some (.inr (g j))):=by
  intro m
  induction m with
  | zero =>
    intro i hi
    have:i=n:=by omega
    subst this
    rw [zAk,hend]
    exact .inl ⟨fun j h1 h2=>absurd h2 (by omega),rfl⟩
  | succ m ih =>
    intro i hi
    rw [zAk]
    rcases hstep i (by omega) with ⟨hq,e⟩ | ⟨hq,e⟩
    ·rw [e];exact .inr ⟨i,by omega,hq,rfl⟩
    ·rw [e]
     rcases ih (i+1) (by omega) with ⟨h1,h2⟩ | h
     ·refine .inl ⟨fun j h3 h4=>?_,h2⟩
      by_cases hj:j=i
      ·rw [hj];exact hq
      ·exact h1 j (by omega) h4
     ·exact .inr h
 rw [hx]
 rcases key n 0 (by omega) with ⟨h1,h2⟩ | ⟨j,h1,h2,h3⟩
 ·exact .inl ⟨fun i hi=>h1 i (by omega) hi,by rw [h2,zAC]⟩
 ·exact .inr ⟨j,h1,h2,by rw [h3,zAH]⟩
end
end Go.TM
end
section
namespace Go.Stow
theorem zSz {p:List Ent} {i:Int}:clsN p i=[]↔¬ zBS p i:=by
 constructor
 ·intro h hc;exact zDL.2 hc h
 ·intro h;exact Classical.byContradiction fun hn=>h (zDL.1 hn)
end Go.Stow
namespace Go.Proofs.YtdpapeledldifaaGreat
open Go Go.AM Go.TM Go.Stow
theorem has_fin1 (n:Fin 256):decide (andI .i64 (n.val:Int) 1=0) = !decide (has (n.val:Int) 1):=by revert n;decide +kernel
theorem has_fin2 (n:Fin 256):decide (andI .i64 (n.val:Int) 2=0) = !decide (has (n.val:Int) 2):=by revert n;decide +kernel
theorem has_fin4 (n:Fin 256):decide (andI .i64 (n.val:Int) 4=0) = !decide (has (n.val:Int) 4):=by revert n;decide +kernel
theorem has_fin8 (n:Fin 256):decide (andI .i64 (n.val:Int) 8=0) = !decide (has (n.val:Int) 8):=by revert n;decide +kernel
theorem and1 {f:Int} (h0:0≤f) (h1:f≤255):decide (andI .i64 f 1=0) = !decide (has f 1):=by
 have:=has_fin1 ⟨f.toNat,by omega⟩;rwa [show ((f.toNat:Nat):Int)=f by omega] at this
theorem and2 {f:Int} (h0:0≤f) (h1:f≤255):decide (andI .i64 f 2=0) = !decide (has f 2):=by
 have:=has_fin2 ⟨f.toNat,by omega⟩;rwa [show ((f.toNat:Nat):Int)=f by omega] at this
theorem and4 {f:Int} (h0:0≤f) (h1:f≤255):decide (andI .i64 f 4=0) = !decide (has f 4):=by
 have:=has_fin4 ⟨f.toNat,by omega⟩;rwa [show ((f.toNat:Nat):Int)=f by omega] at this
theorem and8 {f:Int} (h0:0≤f) (h1:f≤255):decide (andI .i64 f 8=0) = !decide (has f 8):=by
 have:=has_fin8 ⟨f.toNat,by omega⟩;rwa [show ((f.toNat:Nat):Int)=f by omega] at this
theorem and1p {f:Int} (h0:0≤f) (h1:f≤255):(andI .i64 f 1=0)=¬ has f 1:=by
 have:=and1 h0 h1;apply propext;rw [← decide_not,decide_eq_decide] at this;exact this
theorem and2p {f:Int} (h0:0≤f) (h1:f≤255):(andI .i64 f 2=0)=¬ has f 2:=by
 have:=and2 h0 h1;apply propext;rw [← decide_not,decide_eq_decide] at this;exact this
theorem and4p {f:Int} (h0:0≤f) (h1:f≤255):(andI .i64 f 4=0)=¬ has f 4:=by
 have:=and4 h0 h1;apply propext;rw [← decide_not,decide_eq_decide] at this;exact this
theorem q108 {f k:Int} (h0:0≤f) (h1:f≤255) (hk:1≤k):F108 (f,k)=some (decide (has f k)):=by
 have hk0:¬ k=0:=by omega
 have hd:0≤f / k:=Int.ediv_nonneg h0 (by omega)
 have hd2:f / k≤f:=Int.ediv_le_self k h0
 simp only [F108,hk0,decide_false,Bool.not_false,zAG]
 rw [Int.tdiv_eq_ediv_of_nonneg h0,wI (by omega) (by omega),Int.tmod_eq_emod_of_nonneg hd]
 rfl
theorem zDZ {α R:Type} {r:Option α} {a:α} (h:r=some a) (k:α→Option R):zAA r k=k a:=by rw [h];rfl
theorem q175 (c:Cls) (hp:bndP c.1) (hf:0≤c.2.1∧c.2.1≤255) (hl:c.2.2.2.2.1.length≤1048576):F175 c=some (decide (zBx c)):=by
 obtain ⟨c0,c1,c2,c3,c4,c5,c6⟩:=c
 obtain ⟨hf0,hf1⟩:=hf
 simp only at hp hf0 hf1 hl
 have hH:zBx (c0,c1,c2,c3,c4,c5,c6)↔(zBS c0 c2∧zBS c0 c3∧clsN c0 c3≠clsN c0 c2∧(0≤c1∧c1≤7)∧(∀ i,i<c4.length→zBS c0 (c4.getD i 0)∧∀ k,k<i→clsN c0 (c4.getD k 0)≠clsN c0 (c4.getD i 0))∧¬ (has c1 2∧has c1 4)∧(has c1 1→has c1 4∧clsN c0 c3=[79,98,106])):=Iff.rfl
 simp only [F175,q130 _ _ hp,zAB,q107,zAS,zAE]
 by_cases a1:clsN c0 c2=[]
 ·rw [if_pos a1,zAH]
  exact sd (by rw [hH];simp [zSz.1 a1])
 rw [if_neg a1]
 have a1:=zDL.1 a1
 by_cases a2:clsN c0 c3=[]
 ·rw [if_pos a2,zAH]
  exact sd (by rw [hH];simp [zSz.1 a2])
 rw [if_neg a2]
 have a2:=zDL.1 a2
 by_cases a3:clsN c0 c3=clsN c0 c2
 ·rw [if_pos a3,zAH]
  exact sd (by rw [hH];simp [a3])
 rw [if_neg a3]
 by_cases a4:0≤c1∧c1≤7
 ·rw [if_pos a4,zAC]
  simp only
  refine zFV (fun i=>(clsN c0 c3,(i:Int),c0,c1,c2,c3,c4,c5,c6)) (clsN c0 c3,c0,c1,c2,c3,c4,c5,c6) false c4.length (fun i=>zBS c0 (c4.getD i 0)∧∀ k,k<i→clsN c0 (c4.getD k 0)≠clsN c0 (c4.getD i 0)) rfl ?_ ?_ ?_ ?_
  ·simp only [Int.lt_irrefl,if_false]
  ·intro i hi
   have h1:(i:Int)<c4.length:=by omega
   have h0:(0:Int)≤i:=by omega
   simp only [h1,h0,if_true,decide_true,zAG,Int.toNat_natCast]
   rw [zBP 0 hi]
   simp only [q130 _ _ hp,zAB]
   by_cases b1:clsN c0 (c4.getD i 0)=[]
   ·rw [if_pos b1,zAH]
    exact .inr ⟨fun h=>zDL.2 h.1 b1,rfl⟩
   ·rw [if_neg b1]
    have b1:=zDL.1 b1
    refine zVy (F:=(bindE · _)) (fun k=>(clsN c0 c3,(i:Int),(k:Int),c0,c1,c2,c3,c4,c5,c6)) (clsN c0 c3,(i:Int),c0,c1,c2,c3,c4,c5,c6) (.inr (.inr (.inr false))) i (fun k=>clsN c0 (c4.getD k 0)≠clsN c0 (c4.getD i 0)) rfl ?_ ?_ ?_ ?_ ?_
    ·simp only [Int.lt_irrefl,if_false]
    ·intro k hk
     have k1:(k:Int)<i:=by omega
     have k0:(0:Int)≤k:=by omega
     have hkl:k<c4.length:=by omega
     simp only [k1,k0,h0,if_true,decide_true,zAG,Int.toNat_natCast]
     rw [zBP 0 hkl,zBP 0 hi]
     simp only [zBP 0 hi,q130 _ _ hp,zAB,eq_self,decide_true,Bool.and_true,zAG,zAV]
     by_cases e:clsN c0 (c4.getD k 0)=clsN c0 (c4.getD i 0)
     ·rw [if_pos e];exact .inr ⟨fun h=>h e,rfl⟩
     ·rw [if_neg e,wI (by omega) (by omega)];exact .inl ⟨e,rfl⟩
    ·exact ⟨fun h=>h.2,fun h=>⟨b1,h⟩⟩
    ·simp only [zAC]
     rw [wI (by omega) (by omega)]
     rfl
    ·rfl
  ·intro hall
   have hH':zBx (c0,c1,c2,c3,c4,c5,c6)↔(¬ (has c1 2∧has c1 4)∧(has c1 1→has c1 4∧clsN c0 c3=[79,98,106])):=by
    rw [hH]
    exact ⟨fun h=>h.2.2.2.2.2,fun h=>⟨a1,a2,a3,a4,hall,h⟩⟩
   simp only [q108 hf0 hf1 (show (1:Int)≤2 by omega),q108 hf0 hf1 (show (1:Int)≤4 by omega),q108 hf0 hf1 (show (1:Int)≤1 by omega),zAB,zAE]
   by_cases b2:has c1 2 <;> by_cases b4:has c1 4 <;> by_cases b1:has c1 1 <;> simp only [q108 hf0 hf1 (show (1:Int)≤4 by omega),q108 hf0 hf1 (show (1:Int)≤1 by omega),zAB,zAE,b1,b2,b4,if_true,if_false,zAC,zAH] <;> refine sd ?_ <;> rw [hH'] <;> simp [b1,b2,b4]
  ·intro hall
   exact sd (by rw [hH];simp only [Bool.false_eq_true,false_iff];exact fun h=>hall h.2.2.2.2.1)
 ·rw [if_neg a4,zAH]
  exact sd (by rw [hH];simp only [Bool.false_eq_true,false_iff];exact fun h=>a4 h.2.2.2.1)
theorem q162 (c:Cls) (i:Int) (hp:bndP c.1):F162 (c,i)=some (decide ((zAU c.1 i).1=2)):=by
 obtain ⟨c0,c1,c2,c3,c4,c5,c6⟩:=c
 simp only [F162]
 rw [zBj (q124 c0 i hp.1)]
theorem q111 (c:Cls) (i:Int) (hp:bndP c.1):F111 (c,i)=some (zAp c.1 i):=by
 obtain ⟨c0,c1,c2,c3,c4,c5,c6⟩:=c
 simp only [F111]
 rw [zBj (q124 c0 i hp.1)]
 simp only
 rw [zBj (q124 c0 _ hp.1),zAE]
 unfold zAp
 simp only
 split <;> rfl
theorem q165 (c:Cls) (hf:0≤c.2.1∧c.2.1≤255):F165 c=some (decide (has c.2.1 1)):=by
 obtain ⟨c0,c1,c2,c3,c4,c5,c6⟩:=c
 obtain ⟨hf0,hf1⟩:=hf
 simp only at hf0 hf1
 simp only [F165,and1 hf0 hf1,Bool.not_not]
theorem q164 (c:Cls) (g i:Int) (hp:bndP c.1):F164 (g,c,i)=some (decide (zAp c.1 g=zAp c.1 i),c,i):=by
 obtain ⟨c0,c1,c2,c3,c4,c5,c6⟩:=c
 simp only [F164,q111 _ _ hp,zAB,eq_self,decide_true,Bool.and_true,Bool.and_self,zAG,zAV]
theorem q165163 (c:Cls) (s:List Int) (i:Int) (hp:bndP c.1) (hl:s.length≤1048576):∃ b,F165163 (s,c,i)=some (b,c,i)∧(b=false↔∀ k,k<s.length→zAp c.1 (s.getD k 0)≠zAp c.1 i):=by
 obtain ⟨c0,c1,c2,c3,c4,c5,c6⟩:=c
 simp only [F165163,F165235]
 have key:=any_r (f:=(fun (x:List Int×Int×Int×Cls×Int)=>cndO (decide (x.2.2.1<x.2.1))
    (grdO (decide (0≤x.2.2.1)) (atO x.1 (Int.toNat x.2.2.1) fun y=>zAA (F164 (y,(x.2.2.2.1.1,x.2.2.2.1.2.1,x.2.2.2.1.2.2.1,x.2.2.2.1.2.2.2.1,x.2.2.2.1.2.2.2.2.1,x.2.2.2.1.2.2.2.2.2.1,x.2.2.2.1.2.2.2.2.2.2),x.2.2.2.2)) fun z =>
    cndO z.1 (some (.inr (.inr (x.2.2.1,z.2.1,z.2.2)))) (some (.inl (x.1,x.2.1,IntKind.wrap .i64 (x.2.2.1+1),z.2.1,z.2.2)))))
    (some (.inr (.inl ((x.2.2.2.1.1,x.2.2.2.1.2.1,x.2.2.2.1.2.2.1,x.2.2.2.1.2.2.2.1,x.2.2.2.1.2.2.2.2.1,x.2.2.2.1.2.2.2.2.2.1,x.2.2.2.1.2.2.2.2.2.2),x.2.2.2.2))))))
  (fun k=>(s,(s.length:Int),(k:Int),(c0,c1,c2,c3,c4,c5,c6),i)) ((c0,c1,c2,c3,c4,c5,c6),i) (fun k=>((k:Int),(c0,c1,c2,c3,c4,c5,c6),i)) s.length (fun k=>zAp c0 (s.getD k 0)=zAp c0 i) (x0:=(s,(s.length:Int),0,(c0,c1,c2,c3,c4,c5,c6),i)) (k:=fun x=>some ((-1:Int),x.1,x.2)) rfl ?_ ?_
 ·rcases key with ⟨h1,h2⟩ | ⟨k,h1,h2,h3⟩
  ·refine ⟨false,?_,iff_of_true rfl h1⟩
   rw [zDZ h2]
   rfl
  ·refine ⟨true,?_,iff_of_false (by simp) fun h=>h k h1 h2⟩
   rw [zDZ h3]
   simp
 ·simp only [Int.lt_irrefl,decide_false,zAK]
 ·intro k hk
  have k1:(k:Int)<s.length:=by omega
  have k0:(0:Int)≤k:=by omega
  simp only [k1,k0,decide_true,zAJ,zAG,Int.toNat_natCast]
  rw [zBP 0 hk]
  have hq:=q164 (c0,c1,c2,c3,c4,c5,c6) (s.getD k 0) i hp
  simp only at hq
  rw [hq]
  simp only [zAB,zAE]
  rw [wI (by omega) (by omega)]
  by_cases e:zAp c0 (s.getD k 0)=zAp c0 i
  ·rw [if_pos e];exact .inl ⟨e,rfl⟩
  ·rw [if_neg e];exact .inr ⟨e,rfl⟩
end Go.Proofs.YtdpapeledldifaaGreat
end
section
namespace Go.Stow
theorem zDi {α:Type} {l:List α} {i k:Nat} {d:α} (h:k<i):(l.take i).getD k d=l.getD k d:=by
 rw [List.getD_eq_getElem?_getD,List.getD_eq_getElem?_getD,List.getElem?_take,if_pos h]
end Go.Stow
namespace Go.Proofs.YtdpapeledldifaaGreat
open Go Go.AM Go.TM Go.Stow
theorem q83 (c:Cls) (hp:bndP c.1) (hf:0≤c.2.1∧c.2.1≤255) (hl:c.2.2.2.2.1.length≤1048576) (hok:zJT c.1):F83 c=some (decide (zBx c)):=by
 obtain ⟨c0,c1,c2,c3,c4,c5,c6⟩:=c
 obtain ⟨hf0,hf1⟩:=hf
 simp only at hp hf0 hf1 hl hok
 have hH:zBx (c0,c1,c2,c3,c4,c5,c6)↔(zBS c0 c2∧zBS c0 c3∧clsN c0 c3≠clsN c0 c2∧(0≤c1∧c1≤7)∧(∀ i,i<c4.length→zBS c0 (c4.getD i 0)∧∀ k,k<i→clsN c0 (c4.getD k 0)≠clsN c0 (c4.getD i 0))∧¬ (has c1 2∧has c1 4)∧(has c1 1→has c1 4∧clsN c0 c3=[79,98,106])):=Iff.rfl
 have z162:∀ i,F162 ((c0,c1,c2,c3,c4,c5,c6),i)=some (decide ((zAU c0 i).1=2)):=fun i=>q162 (c0,c1,c2,c3,c4,c5,c6) i hp
 have z111:∀ i,F111 ((c0,c1,c2,c3,c4,c5,c6),i)=some (zAp c0 i):=fun i=>q111 (c0,c1,c2,c3,c4,c5,c6) i hp
 simp only [F83,z162,z111,zAB,zAS,zAE,eq_self,decide_true,Bool.and_true,Bool.and_self,zAG,zAV]
 by_cases a1:(zAU c0 c2).1=2
 ·rw [if_pos a1]
  have a1:=hok.cls.2 a1
  by_cases a2:(zAU c0 c3).1=2
  ·rw [if_pos a2]
   have a2:=hok.cls.2 a2
   rw [zDH a1,zDH a2]
   by_cases a3:clsN c0 c3=clsN c0 c2
   ·rw [if_pos a3,zAH]
    exact sd (by rw [hH];simp [a3])
   ·rw [if_neg a3,zAC]
    simp only
    refine zFV (fun i=>(c4,(c4.length:Int),(i:Int),c0,c1,c2,c3,c4,c5,c6)) (c0,c1,c2,c3,c4,c5,c6) false c4.length (fun i=>(zAU c0 (c4.getD i 0)).1=2∧∀ k,k<i→zAp c0 (c4.getD k 0)≠zAp c0 (c4.getD i 0)) rfl ?_ ?_ ?_ ?_
    ·simp only [Int.lt_irrefl,if_false]
    ·intro i hi
     have h1:(i:Int)<c4.length:=by omega
     have h0:(0:Int)≤i:=by omega
     have h2:(i:Int)≤c4.length:=by omega
     simp only [h1,h0,h2,if_true,decide_true,Bool.and_self,zAG,Int.toNat_natCast,List.drop_zero]
     rw [zBP 0 hi]
     simp only [z162,zAB,zAE,zAS]
     by_cases b1:(zAU c0 (c4.getD i 0)).1=2
     ·rw [if_pos b1]
      obtain ⟨b,e,hb⟩:=q165163 (c0,c1,c2,c3,c4,c5,c6) (c4.take i) (c4.getD i 0) hp (by simp only [List.length_take];omega)
      rw [e]
      simp only [zAB]
      have hbi:b=false↔∀ k,k<i→zAp c0 (c4.getD k 0)≠zAp c0 (c4.getD i 0):=by
       rw [hb]
       simp only [List.length_take,Nat.min_eq_left (Nat.le_of_lt hi)]
       exact ⟨fun h k hk=>by have:=h k hk;rwa [zDi hk] at this,fun h k hk=>by rw [zDi hk];exact h k hk⟩
      cases b with
      | true =>
        exact .inr ⟨fun h=>(by cases hbi.2 h.2),rfl⟩
      | false =>
        refine .inl ⟨⟨b1,hbi.1 rfl⟩,?_⟩
        simp only [zAK,zAC]
        rw [wI (by omega) (by omega)]
        rfl
     ·rw [if_neg b1]
      exact .inr ⟨fun h=>b1 h.1,rfl⟩
    ·intro hall
     have hall':∀ i,i<c4.length→zBS c0 (c4.getD i 0)∧∀ k,k<i→clsN c0 (c4.getD k 0)≠clsN c0 (c4.getD i 0):=fun i hi =>
      ⟨hok.cls.2 (hall i hi).1,fun k hk=>by
       have:=(hall i hi).2 k hk
       rwa [zDH (hok.cls.2 (hall i hi).1),zDH (hok.cls.2 (hall k (by omega)).1)] at this⟩
     have hH':zBx (c0,c1,c2,c3,c4,c5,c6)↔((0≤c1∧c1≤7)∧¬ (has c1 2∧has c1 4)∧(has c1 1→has c1 4∧clsN c0 c3=[79,98,106])):=by
      rw [hH]
      exact ⟨fun h=>⟨h.2.2.2.1,h.2.2.2.2.2⟩,fun h=>⟨a1,a2,a3,h.1,hall',h.2⟩⟩
     simp only [eq_self,decide_true,zAG,zAV,q89,zAB,and2p hf0 hf1,and4p hf0 hf1,q165 (c0,c1,c2,c3,c4,c5,c6) ⟨hf0,hf1⟩,z111,Bool.not_not,zAS,zAE,zDH a2]
     by_cases b0:0≤c1∧c1≤7
     ·rw [if_pos b0]
      by_cases b2:has c1 2 <;> by_cases b4:has c1 4 <;> by_cases b1:has c1 1 <;> simp only [b1,b2,b4,not_true,not_false_iff,if_true,if_false] <;> refine sd ?_ <;> rw [hH'] <;> simp [b0,b1,b2,b4]
     ·rw [if_neg b0]
      refine sd ?_
      rw [hH']
      simp [b0]
    ·intro hall
     refine sd ?_
     rw [hH];simp only [Bool.false_eq_true,false_iff]
     refine fun h=>hall fun i hi=>⟨(h.2.2.2.2.1 i hi).1.1,fun k hk=>?_⟩
     rw [zDH (h.2.2.2.2.1 i hi).1,zDH (h.2.2.2.2.1 k (by omega)).1]
     exact (h.2.2.2.2.1 i hi).2 k hk
  ·rw [if_neg a2,zAH]
   exact sd (by rw [hH];simp only [Bool.false_eq_true,false_iff];exact fun h=>a2 h.2.1.1)
 ·rw [if_neg a1,zAH]
  exact sd (by rw [hH];simp only [Bool.false_eq_true,false_iff];exact fun h=>a1 h.1.1)
theorem q176 (c:Cls) (hp:bndP c.1) (hf:0≤c.2.1∧c.2.1≤255) (hl:c.2.2.2.2.2.1.length≤1048576):F176 c=some (decide (zDq c)):=by
 obtain ⟨c0,c1,c2,c3,c4,c5,c6⟩:=c
 obtain ⟨hf0,hf1⟩:=hf
 simp only at hp hf0 hf1 hl
 simp only [F176,zAE]
 refine zFV (fun i=>((i:Int),c0,c1,c2,c3,c4,c5,c6)) () false c5.length (FldOk (c0,c1,c2,c3,c4,c5,c6)) rfl ?_ ?_ ?_ ?_
 ·simp only [Int.lt_irrefl,if_false]
 ·intro i hi
  have h1:(i:Int)<c5.length:=by omega
  have h0:(0:Int)≤i:=by omega
  simp only [h1,h0,if_true,decide_true,zAG,Int.toNat_natCast]
  rw [zBP (0,0,0) hi]
  have hF:FldOk (c0,c1,c2,c3,c4,c5,c6) i↔(zAu c0 (c5.getD i (0,0,0)).2.1 Nm∧zAu c0 (c5.getD i (0,0,0)).2.2 Tok∧(0≤(c5.getD i (0,0,0)).1∧(c5.getD i (0,0,0)).1≤3)∧(has c1 1→(c5.getD i (0,0,0)).1=1)∧∀ k,k<i→txt c0 (c5.getD k (0,0,0)).2.1≠txt c0 (c5.getD i (0,0,0)).2.1):=Iff.rfl
  rw [hF]
  generalize c5.getD i (0,0,0)=x
  simp only [q131 _ _ hp,n127 _ (zDB hp _),n128 _ (zDB hp _),q107,zAB,zAS,zAE]
  have t1:Nm (txt c0 x.2.1)↔zAu c0 x.2.1 Nm:=zGZ zGO
  have t2:Tok (txt c0 x.2.2)↔zAu c0 x.2.2 Tok:=zGZ zDG
  by_cases b1:Nm (txt c0 x.2.1)
  ·rw [if_pos b1]
   by_cases b2:Tok (txt c0 x.2.2)
   ·rw [if_pos b2]
    by_cases b3:0≤x.1∧x.1≤3
    ·rw [if_pos b3,zAC]
     simp only [q108 hf0 hf1 (show (1:Int)≤1 by omega),zAB,zAE]
     by_cases b4:has c1 1→x.1=1
     ·rw [show (if has c1 1 then if x.1=1 then some (Sum.inl ((i:Int),(c0,c1,c2,c3,c4,c5,c6),x.1,x.2.1,x.2.2)) else some (Sum.inr (Sum.inr (Sum.inr (Sum.inr false)))) else some (Sum.inl ((i:Int),(c0,c1,c2,c3,c4,c5,c6),x.1,x.2.1,x.2.2)):Option ((Int×Cls×Int×Int×Int) ⊕ ((Int×Cls) ⊕ ((Int×Cls) ⊕ (Unit ⊕ Bool)))))=some (Sum.inl ((i:Int),(c0,c1,c2,c3,c4,c5,c6),x.1,x.2.1,x.2.2)) by
       by_cases g:has c1 1
       ·rw [if_pos g,if_pos (b4 g)]
       ·rw [if_neg g],zAC]
      simp only
      refine zVy (F:=(bindE · _)) (fun k=>((i:Int),(k:Int),(c0,c1,c2,c3,c4,c5,c6),x.1,x.2.1,x.2.2)) ((i:Int),c0,c1,c2,c3,c4,c5,c6) (.inr (.inr (.inr false))) i (fun k=>txt c0 (c5.getD k (0,0,0)).2.1≠txt c0 x.2.1) rfl ?_ ?_ ?_ ?_ ?_
      ·simp only [Int.lt_irrefl,if_false]
      ·intro k hk
       have k1:(k:Int)<i:=by omega
       have k0:(0:Int)≤k:=by omega
       have hkl:k<c5.length:=by omega
       simp only [k1,k0,if_true,decide_true,zAG,Int.toNat_natCast]
       rw [zBP (0,0,0) hkl]
       simp only [q131 _ _ hp,zAB,eq_self,decide_true,zAG,zAV]
       by_cases e:txt c0 (c5.getD k (0,0,0)).2.1=txt c0 x.2.1
       ·rw [if_pos e];exact .inr ⟨fun h=>h e,rfl⟩
       ·rw [if_neg e,wI (by omega) (by omega)];exact .inl ⟨e,rfl⟩
      ·exact ⟨fun h=>h.2.2.2.2,fun h=>⟨t1.1 b1,t2.1 b2,b3,b4,h⟩⟩
      ·simp only [zAC]
       rw [wI (by omega) (by omega)]
       rfl
      ·rfl
     ·have g:has c1 1:=Classical.byContradiction fun h=>b4 fun h'=>absurd h' h
      have g2:¬ x.1=1:=fun h=>b4 fun _=>h
      rw [if_pos g,if_neg g2]
      exact .inr ⟨fun h=>g2 (h.2.2.2.1 g),rfl⟩
    ·rw [if_neg b3]
     exact .inr ⟨fun h=>b3 h.2.2.1,rfl⟩
   ·rw [if_neg b2]
    exact .inr ⟨fun h=>b2 (t2.2 h.2.1),rfl⟩
  ·rw [if_neg b1]
   exact .inr ⟨fun h=>b1 (t1.2 h.1),rfl⟩
 ·intro hall
  exact sd (iff_of_true rfl hall)
 ·intro hall
  exact sd (iff_of_false (by simp) hall)
end Go.Proofs.YtdpapeledldifaaGreat
end
section
namespace Go.Stow
def zJV (c:ClsP) (i:Nat):Prop :=
 let f:=c.2.2.2.2.2.1.getD i (0,0,0)
 zAu c.1 f.2.1 Nm∧zAu c.1 f.2.2 Tok∧(0≤f.1∧f.1≤3)∧(has c.2.1 1→f.1=1)∧∀ k,k<i→zAp c.1 (c.2.2.2.2.2.1.getD k (0,0,0)).2.1≠zAp c.1 f.2.1
noncomputable instance (c:ClsP) (i:Nat):Decidable (zJV c i):=Classical.propDecidable _
theorem flds_iff (c:ClsP):(∀ i,i<c.2.2.2.2.2.1.length→zJV c i)↔zDq c:=by
 constructor
 ·intro h i hi
  obtain ⟨h1,h2,h3,h4,h5⟩:=h i hi
  refine ⟨h1,h2,h3,h4,fun k hk=>?_⟩
  have hk':=h k (by omega)
  have:=h5 k hk
  rwa [zAs h1.1,zAs hk'.1.1] at this
 ·intro h i hi
  obtain ⟨h1,h2,h3,h4,h5⟩:=h i hi
  refine ⟨h1,h2,h3,h4,fun k hk=>?_⟩
  have hk':=h k (by omega)
  have:=h5 k hk
  rwa [zAs h1.1,zAs hk'.1.1]
def zJU (c:ClsP) (i:Nat):Prop :=
 let m:=c.2.2.2.2.2.2.getD i mth0
 zAu c.1 m.2.1 Nm∧zAu c.1 m.2.2.1 Dsc∧zEO c m ∧
 ∀ k,k<i→¬ (zAp c.1 (c.2.2.2.2.2.2.getD k mth0).2.1=zAp c.1 m.2.1∧zAp c.1 (c.2.2.2.2.2.2.getD k mth0).2.2.1=zAp c.1 m.2.2.1)
noncomputable instance (c:ClsP) (i:Nat):Decidable (zJU c i):=Classical.propDecidable _
theorem mths_iff (c:ClsP):(∀ i,i<c.2.2.2.2.2.2.length→zJU c i)↔zEU c:=by
 constructor
 ·intro h i hi
  obtain ⟨h1,h2,h3,h5⟩:=h i hi
  refine ⟨h1,h2,h3,fun k hk=>?_⟩
  have hk':=h k (by omega)
  have:=h5 k hk
  rwa [zAs h1.1,zAs hk'.1.1,zAs h2.1,zAs hk'.2.1.1] at this
 ·intro h i hi
  obtain ⟨h1,h2,h3,h5⟩:=h i hi
  refine ⟨h1,h2,h3,fun k hk=>?_⟩
  have hk':=h k (by omega)
  have:=h5 k hk
  rwa [zAs h1.1,zAs hk'.1.1,zAs h2.1,zAs hk'.2.1.1]
end Go.Stow
namespace Go.Proofs.YtdpapeledldifaaGreat
open Go Go.AM Go.TM Go.Stow
theorem q167 (c:Cls) (g f:Fld) (hp:bndP c.1):F167 (g,c,f)=some (decide (zAp c.1 g.2.1=zAp c.1 f.2.1),c,f):=by
 obtain ⟨c0,c1,c2,c3,c4,c5,c6⟩:=c
 obtain ⟨g0,g1,g2⟩:=g
 obtain ⟨f0,f1,f2⟩:=f
 have z111:∀ i,F111 ((c0,c1,c2,c3,c4,c5,c6),i)=some (zAp c0 i):=fun i=>q111 (c0,c1,c2,c3,c4,c5,c6) i hp
 simp only [F167,z111,zAB,eq_self,decide_true,Bool.and_true,Bool.and_self,zAG,zAV]
theorem q168166 (c:Cls) (s:List Fld) (f:Fld) (hp:bndP c.1) (hl:s.length≤1048576):∃ b,F168166 (s,c,f)=some (b,c,f)∧(b=false↔∀ k,k<s.length→zAp c.1 (s.getD k (0,0,0)).2.1≠zAp c.1 f.2.1):=by
 obtain ⟨c0,c1,c2,c3,c4,c5,c6⟩:=c
 obtain ⟨f0,f1,f2⟩:=f
 simp only [F168166,F168236]
 have key:=any_r (f:=(fun (x:List Fld×Int×Int×Cls×Fld)=>cndO (decide (x.2.2.1<x.2.1))
    (grdO (decide (0≤x.2.2.1)) (atO x.1 (Int.toNat x.2.2.1) fun y=>zAA (F167 ((y.1,y.2.1,y.2.2),(x.2.2.2.1.1,x.2.2.2.1.2.1,x.2.2.2.1.2.2.1,x.2.2.2.1.2.2.2.1,x.2.2.2.1.2.2.2.2.1,x.2.2.2.1.2.2.2.2.2.1,x.2.2.2.1.2.2.2.2.2.2),x.2.2.2.2.1,x.2.2.2.2.2.1,x.2.2.2.2.2.2)) fun z =>
    cndO z.1 (some (.inr (.inr (x.2.2.1,z.2.1,z.2.2)))) (some (.inl (x.1,x.2.1,IntKind.wrap .i64 (x.2.2.1+1),z.2.1,z.2.2)))))
    (some (.inr (.inl ((x.2.2.2.1.1,x.2.2.2.1.2.1,x.2.2.2.1.2.2.1,x.2.2.2.1.2.2.2.1,x.2.2.2.1.2.2.2.2.1,x.2.2.2.1.2.2.2.2.2.1,x.2.2.2.1.2.2.2.2.2.2),x.2.2.2.2.1,x.2.2.2.2.2.1,x.2.2.2.2.2.2))))))
  (fun k=>(s,(s.length:Int),(k:Int),(c0,c1,c2,c3,c4,c5,c6),f0,f1,f2)) ((c0,c1,c2,c3,c4,c5,c6),f0,f1,f2) (fun k=>((k:Int),(c0,c1,c2,c3,c4,c5,c6),f0,f1,f2)) s.length (fun k=>zAp c0 (s.getD k (0,0,0)).2.1=zAp c0 f1) (x0:=(s,(s.length:Int),0,(c0,c1,c2,c3,c4,c5,c6),f0,f1,f2)) (k:=fun x=>some ((-1:Int),x.1,x.2)) rfl ?_ ?_
 ·rcases key with ⟨h1,h2⟩ | ⟨k,h1,h2,h3⟩
  ·refine ⟨false,?_,iff_of_true rfl h1⟩
   rw [zDZ h2]
   rfl
  ·refine ⟨true,?_,iff_of_false (by simp) fun h=>h k h1 h2⟩
   rw [zDZ h3]
   simp
 ·simp only [Int.lt_irrefl,decide_false,zAK]
 ·intro k hk
  have k1:(k:Int)<s.length:=by omega
  have k0:(0:Int)≤k:=by omega
  simp only [k1,k0,decide_true,zAJ,zAG,Int.toNat_natCast]
  rw [zBP (0,0,0) hk]
  have hq:=q167 (c0,c1,c2,c3,c4,c5,c6) (s.getD k (0,0,0)) (f0,f1,f2) hp
  simp only at hq
  refine (show _=_∧_∨_ from ?_)
  rw [hq]
  simp only [zAB,zAE]
  rw [wI (by omega) (by omega)]
  by_cases e:zAp c0 (s.getD k (0,0,0)).2.1=zAp c0 f1
  ·rw [if_pos e];exact .inl ⟨e,rfl⟩
  ·rw [if_neg e];exact .inr ⟨e,rfl⟩
theorem q84 (c:Cls) (i:Nat) (hp:bndP c.1) (hf:0≤c.2.1∧c.2.1≤255) (hl:c.2.2.2.2.2.1.length≤1048576) (hi:i<c.2.2.2.2.2.1.length):F84 (c,(i:Int))=some (decide (zJV c i)):=by
 obtain ⟨c0,c1,c2,c3,c4,c5,c6⟩:=c
 obtain ⟨hf0,hf1⟩:=hf
 simp only at hp hf0 hf1 hl hi
 have h0:(0:Int)≤i:=by omega
 have h2:(i:Int)≤c5.length:=by omega
 have hF:zJV (c0,c1,c2,c3,c4,c5,c6) i↔(zAu c0 (c5.getD i (0,0,0)).2.1 Nm∧zAu c0 (c5.getD i (0,0,0)).2.2 Tok∧(0≤(c5.getD i (0,0,0)).1∧(c5.getD i (0,0,0)).1≤3)∧(has c1 1→(c5.getD i (0,0,0)).1=1)∧∀ k,k<i→zAp c0 (c5.getD k (0,0,0)).2.1≠zAp c0 (c5.getD i (0,0,0)).2.1):=Iff.rfl
 simp only [F84,h0,h2,decide_true,Bool.and_self,zAG,Int.toNat_natCast]
 rw [zBP (0,0,0) hi]
 generalize c5.getD i (0,0,0)=x at hF ⊢
 simp only [zSb _ _ hp,zUr _ _ hp,q89,q165 (c0,c1,c2,c3,c4,c5,c6) ⟨hf0,hf1⟩,zAB,zAS,zAE]
 by_cases b1:zAu c0 x.2.1 Nm
 ·rw [if_pos b1]
  by_cases b2:zAu c0 x.2.2 Tok
  ·rw [if_pos b2]
   by_cases b3:0≤x.1∧x.1≤3
   ·rw [if_pos b3]
    by_cases b4:has c1 1→x.1=1
    ·rw [show (if has c1 1 then if x.1=1 then some (Sum.inl ((i:Int),(c0,c1,c2,c3,c4,c5,c6),x.1,x.2.1,x.2.2)) else some (Sum.inr false) else some (Sum.inl ((i:Int),(c0,c1,c2,c3,c4,c5,c6),x.1,x.2.1,x.2.2)):Option ((Int×Cls×Int×Int×Int) ⊕ Bool))=some (Sum.inl ((i:Int),(c0,c1,c2,c3,c4,c5,c6),x.1,x.2.1,x.2.2)) by
      by_cases g:has c1 1
      ·rw [if_pos g,if_pos (b4 g)]
      ·rw [if_neg g],zAC]
     obtain ⟨b,e,hb⟩:=q168166 (c0,c1,c2,c3,c4,c5,c6) (c5.take i) x hp (by simp only [List.length_take];omega)
     obtain ⟨x0,x1,x2⟩:=x
     simp only [h0,h2,decide_true,Bool.and_self,zAG,Int.toNat_natCast,List.drop_zero]
     rw [e]
     simp only [zAB]
     have hbi:b=false↔∀ k,k<i→zAp c0 (c5.getD k (0,0,0)).2.1≠zAp c0 x1:=by
      rw [hb]
      simp only [List.length_take,Nat.min_eq_left (Nat.le_of_lt hi)]
      exact ⟨fun h k hk=>by have:=h k hk;rwa [zDi hk] at this,fun h k hk=>by rw [zDi hk];exact h k hk⟩
     refine sd ?_
     rw [hF]
     simp only [Bool.not_eq_true',hbi]
     exact ⟨fun h=>⟨b1,b2,b3,b4,h⟩,fun h=>h.2.2.2.2⟩
    ·have g:has c1 1:=Classical.byContradiction fun h=>b4 fun h'=>absurd h' h
     have g2:¬ x.1=1:=fun h=>b4 fun _=>h
     rw [if_pos g,if_neg g2,zAH]
     exact sd (by rw [hF];exact iff_of_false (by simp) fun h=>b4 h.2.2.2.1)
   ·rw [if_neg b3,zAH]
    exact sd (by rw [hF];exact iff_of_false (by simp) fun h=>b3 h.2.2.1)
  ·rw [if_neg b2,zAH]
   exact sd (by rw [hF];exact iff_of_false (by simp) fun h=>b2 h.2.1)
 ·rw [if_neg b1,zAH]
  exact sd (by rw [hF];exact iff_of_false (by simp) fun h=>b1 h.1)
theorem q244 (c:Cls) (m:Mth) (hp:bndP c.1) (hf:0≤c.2.1∧c.2.1≤255) (hm:0≤m.1∧m.1≤255):F244 (c,m)=some (decide (zEO c m)):=by
 obtain ⟨c0,c1,c2,c3,c4,c5,c6⟩:=c
 obtain ⟨m0,m1,m2,m3,m4,m5,m6,m7⟩:=m
 obtain ⟨hf0,hf1⟩:=hf
 obtain ⟨hm0,hm1⟩:=hm
 simp only at hp hf0 hf1 hm0 hm1
 have hF:zEO (c0,c1,c2,c3,c4,c5,c6) (m0,m1,m2,m3,m4,m5,m6,m7)↔((0≤m0∧m0≤15)∧(txt c0 m1=[98,101,103,105,110]→m0=1∧txt c0 m2=[40,41,86])∧(has m0 8→m0=8∧has c1 4)∧(¬ has m0 8→has c1 1→m0=1)):=Iff.rfl
 simp only [F244,q131 _ _ hp,q107,zAB,zAS,zAE]
 by_cases b1:0≤m0∧m0≤15
 ·rw [if_pos b1]
  have e8:=q108 hm0 hm1 (show (1:Int)≤8 by omega)
  have e4:=q108 hf0 hf1 (show (1:Int)≤4 by omega)
  have e1:=q108 hf0 hf1 (show (1:Int)≤1 by omega)
  have go:(txt c0 m1=[98,101,103,105,110]→m0=1∧txt c0 m2=[40,41,86])→(if has m0 8 then if m0=8 then some (decide (has c1 4)) else some false else if has c1 1 then some (decide (m0=1)) else some true:Option Bool)=some (decide (zEO (c0,c1,c2,c3,c4,c5,c6) (m0,m1,m2,m3,m4,m5,m6,m7))):=by
   intro b2
   by_cases b5:has m0 8
   ·rw [if_pos b5]
    by_cases b8:m0=8
    ·rw [if_pos b8]
     refine sd ?_
     rw [hF,decide_eq_true_iff]
     exact ⟨fun h=>⟨b1,b2,fun _=>⟨b8,h⟩,fun h=>absurd b5 h⟩,fun h=>(h.2.2.1 b5).2⟩
    ·rw [if_neg b8]
     exact sd (by rw [hF];exact iff_of_false (by simp) fun h=>b8 (h.2.2.1 b5).1)
   ·rw [if_neg b5]
    by_cases b7:has c1 1
    ·rw [if_pos b7]
     refine sd ?_
     rw [hF,decide_eq_true_iff]
     exact ⟨fun h=>⟨b1,b2,fun h'=>absurd h' b5,fun _ _=>h⟩,fun h=>h.2.2.2 b5 b7⟩
    ·rw [if_neg b7]
     exact sd (by rw [hF];exact iff_of_true rfl ⟨b1,b2,fun h'=>absurd h' b5,fun _ h=>absurd h b7⟩)
  by_cases b2:txt c0 m1=[98,101,103,105,110]
  ·rw [if_pos b2]
   by_cases b3:m0=1
   ·rw [if_pos b3]
    by_cases b4:txt c0 m2=[40,41,86]
    ·rw [if_pos b4,zAC]
     simp only [e8,e4,e1,zAB,zAE]
     exact go fun _=>⟨b3,b4⟩
    ·rw [if_neg b4,zAH]
     exact sd (by rw [hF];exact iff_of_false (by simp) fun h=>b4 (h.2.1 b2).2)
   ·rw [if_neg b3,zAH]
    exact sd (by rw [hF];exact iff_of_false (by simp) fun h=>b3 (h.2.1 b2).1)
  ·rw [if_neg b2,zAC]
   simp only [e8,e4,e1,zAB,zAE]
   exact go fun h=>absurd h b2
 ·rw [if_neg b1]
  exact sd (by rw [hF];exact iff_of_false (by simp) fun h=>b1 h.1)
theorem q177 (c:Cls) (hp:bndP c.1) (hf:0≤c.2.1∧c.2.1≤255) (hl:c.2.2.2.2.2.2.length≤1048576) (hm:∀ m∈c.2.2.2.2.2.2,0≤m.1∧m.1≤255):F177 c=some (decide (zEU c)):=by
 obtain ⟨c0,c1,c2,c3,c4,c5,c6⟩:=c
 simp only at hp hl hm
 simp only [F177,zAE]
 refine zFV (fun i=>((i:Int),c0,c1,c2,c3,c4,c5,c6)) () false c6.length (MthOk (c0,c1,c2,c3,c4,c5,c6)) rfl ?_ ?_ ?_ ?_
 ·simp only [Int.lt_irrefl,if_false]
 ·intro i hi
  have h1:(i:Int)<c6.length:=by omega
  have h0:(0:Int)≤i:=by omega
  have hmi:0≤(c6.getD i mth0).1∧(c6.getD i mth0).1≤255:=by
   rw [List.getD_eq_getElem?_getD,List.getElem?_eq_getElem hi]
   exact hm _ (List.getElem_mem hi)
  simp only [h1,h0,if_true,decide_true,zAG,Int.toNat_natCast]
  rw [zBP mth0 hi]
  have hF:MthOk (c0,c1,c2,c3,c4,c5,c6) i↔(zAu c0 (c6.getD i mth0).2.1 Nm∧zAu c0 (c6.getD i mth0).2.2.1 Dsc∧zEO (c0,c1,c2,c3,c4,c5,c6) (c6.getD i mth0) ∧
   ∀ k,k<i→¬ (txt c0 (c6.getD k mth0).2.1=txt c0 (c6.getD i mth0).2.1∧txt c0 (c6.getD k mth0).2.2.1=txt c0 (c6.getD i mth0).2.2.1)):=Iff.rfl
  rw [hF]
  generalize c6.getD i mth0=x at hmi
  have z244:F244 ((c0,c1,c2,c3,c4,c5,c6),x.1,x.2.1,x.2.2.1,x.2.2.2.1,x.2.2.2.2.1,x.2.2.2.2.2.1,x.2.2.2.2.2.2.1,x.2.2.2.2.2.2.2)=some (decide (zEO (c0,c1,c2,c3,c4,c5,c6) x)):=q244 (c0,c1,c2,c3,c4,c5,c6) x hp hf hmi
  simp only [q131 _ _ hp,n127 _ (zDB hp _),n129 _ (zDB hp _),z244,zAB,zAS,zAE]
  have t1:Nm (txt c0 x.2.1)↔zAu c0 x.2.1 Nm:=zGZ zGO
  have t2:Dsc (txt c0 x.2.2.1)↔zAu c0 x.2.2.1 Dsc:=zGZ zFN
  by_cases b1:Nm (txt c0 x.2.1)
  ·rw [if_pos b1]
   by_cases b2:Dsc (txt c0 x.2.2.1)
   ·rw [if_pos b2]
    by_cases b3:zEO (c0,c1,c2,c3,c4,c5,c6) x
    ·rw [if_pos b3,zAC]
     simp only
     refine zVy (F:=(bindE · _)) (fun k=>((i:Int),(k:Int),(c0,c1,c2,c3,c4,c5,c6),x.1,x.2.1,x.2.2.1,x.2.2.2.1,x.2.2.2.2.1,x.2.2.2.2.2.1,x.2.2.2.2.2.2.1,x.2.2.2.2.2.2.2)) ((i:Int),c0,c1,c2,c3,c4,c5,c6) (.inr (.inr (.inr false))) i (fun k=>¬ (txt c0 (c6.getD k mth0).2.1=txt c0 x.2.1∧txt c0 (c6.getD k mth0).2.2.1=txt c0 x.2.2.1)) rfl ?_ ?_ ?_ ?_ ?_
     ·simp only [Int.lt_irrefl,if_false]
     ·intro k hk
      have k1:(k:Int)<i:=by omega
      have k0:(0:Int)≤k:=by omega
      have hkl:k<c6.length:=by omega
      simp only [k1,k0,if_true,decide_true,zAG,Int.toNat_natCast]
      rw [zBP mth0 hkl]
      simp only [zBP mth0 hkl,q131 _ _ hp,zAB,eq_self,decide_true,zAG,zAV]
      by_cases e:txt c0 (c6.getD k mth0).2.1=txt c0 x.2.1
      ·rw [if_pos e]
       by_cases e2:txt c0 (c6.getD k mth0).2.2.1=txt c0 x.2.2.1
       ·rw [if_pos e2,zAH];exact .inr ⟨fun h=>h ⟨e,e2⟩,rfl⟩
       ·rw [if_neg e2,zAC]
        simp only
        rw [wI (by omega) (by omega)];exact .inl ⟨fun h=>e2 h.2,rfl⟩
      ·rw [if_neg e,zAC]
       simp only
       rw [wI (by omega) (by omega)];exact .inl ⟨fun h=>e h.1,rfl⟩
     ·exact ⟨fun h=>h.2.2.2,fun h=>⟨t1.1 b1,t2.1 b2,b3,h⟩⟩
     ·simp only [zAC]
      rw [wI (by omega) (by omega)]
      rfl
     ·rfl
    ·rw [if_neg b3]
     exact .inr ⟨fun h=>b3 h.2.2.1,rfl⟩
   ·rw [if_neg b2]
    exact .inr ⟨fun h=>b2 (t2.2 h.2.1),rfl⟩
  ·rw [if_neg b1]
   exact .inr ⟨fun h=>b1 (t1.2 h.1),rfl⟩
 ·intro hall
  exact sd (iff_of_true rfl hall)
 ·intro hall
  exact sd (iff_of_false (by simp) hall)
end Go.Proofs.YtdpapeledldifaaGreat
end
section
namespace Go.TM
theorem zTq {R:Type} (a:Option R):zBU a a=a:=by unfold zBU;rw [if_pos rfl]
end Go.TM
namespace Go.Proofs.YtdpapeledldifaaGreat
open Go Go.AM Go.TM Go.Stow
theorem q169 (c:Cls) (g:Mth) (a b:List UInt8) (hp:bndP c.1):F169 (g,c,a,b)=some (decide (zAp c.1 g.2.1=a∧zAp c.1 g.2.2.1=b),c,a,b):=by
 obtain ⟨c0,c1,c2,c3,c4,c5,c6⟩:=c
 obtain ⟨g0,g1,g2,g3,g4,g5,g6,g7⟩:=g
 have z111:∀ i,F111 ((c0,c1,c2,c3,c4,c5,c6),i)=some (zAp c0 i):=fun i=>q111 (c0,c1,c2,c3,c4,c5,c6) i hp
 simp only [F169,z111,zAB,eq_self,decide_true,zAG,zAV,zAE]
 by_cases e:zAp c0 g1=a
 ·rw [if_pos e];simp [e]
 ·rw [if_neg e];simp [e]
theorem q170168 (c:Cls) (s:List Mth) (a b:List UInt8) (hp:bndP c.1) (hl:s.length≤1048576):∃ r,F170168 (s,c,a,b)=some (r,c,a,b)∧(r=false↔∀ k,k<s.length→¬ (zAp c.1 (s.getD k mth0).2.1=a∧zAp c.1 (s.getD k mth0).2.2.1=b)):=by
 obtain ⟨c0,c1,c2,c3,c4,c5,c6⟩:=c
 simp only [F170168,F170237]
 have key:=any_r (f:=(fun (x:List Mth×Int×Int×Cls×List UInt8×List UInt8)=>cndO (decide (x.2.2.1<x.2.1))
    (grdO (decide (0≤x.2.2.1)) (atO x.1 (Int.toNat x.2.2.1) fun y=>zAA (F169 ((y.1,y.2.1,y.2.2.1,y.2.2.2.1,y.2.2.2.2.1,y.2.2.2.2.2.1,y.2.2.2.2.2.2.1,y.2.2.2.2.2.2.2),(x.2.2.2.1.1,x.2.2.2.1.2.1,x.2.2.2.1.2.2.1,x.2.2.2.1.2.2.2.1,x.2.2.2.1.2.2.2.2.1,x.2.2.2.1.2.2.2.2.2.1,x.2.2.2.1.2.2.2.2.2.2),x.2.2.2.2.1,x.2.2.2.2.2)) fun z =>
    cndO z.1 (some (.inr (.inr (x.2.2.1,z.2.1,z.2.2)))) (some (.inl (x.1,x.2.1,IntKind.wrap .i64 (x.2.2.1+1),z.2.1,z.2.2)))))
    (some (.inr (.inl ((x.2.2.2.1.1,x.2.2.2.1.2.1,x.2.2.2.1.2.2.1,x.2.2.2.1.2.2.2.1,x.2.2.2.1.2.2.2.2.1,x.2.2.2.1.2.2.2.2.2.1,x.2.2.2.1.2.2.2.2.2.2),x.2.2.2.2.1,x.2.2.2.2.2))))))
  (fun k=>(s,(s.length:Int),(k:Int),(c0,c1,c2,c3,c4,c5,c6),a,b)) ((c0,c1,c2,c3,c4,c5,c6),a,b) (fun k=>((k:Int),(c0,c1,c2,c3,c4,c5,c6),a,b)) s.length (fun k=>zAp c0 (s.getD k mth0).2.1=a∧zAp c0 (s.getD k mth0).2.2.1=b) (x0:=(s,(s.length:Int),0,(c0,c1,c2,c3,c4,c5,c6),a,b)) (k:=fun x=>some ((-1:Int),x.1,x.2)) rfl ?_ ?_
 ·rcases key with ⟨h1,h2⟩ | ⟨k,h1,h2,h3⟩
  ·refine ⟨false,?_,iff_of_true rfl h1⟩
   rw [zDZ h2]
   rfl
  ·refine ⟨true,?_,iff_of_false (by simp) fun h=>h k h1 h2⟩
   rw [zDZ h3]
   simp
 ·simp only [Int.lt_irrefl,decide_false,zAK]
 ·intro k hk
  have k1:(k:Int)<s.length:=by omega
  have k0:(0:Int)≤k:=by omega
  simp only [k1,k0,decide_true,zAJ,zAG,Int.toNat_natCast]
  rw [zBP mth0 hk]
  have hq:=q169 (c0,c1,c2,c3,c4,c5,c6) (s.getD k mth0) a b hp
  refine (show (_∧_)∧_=_∨_ from ?_)
  rw [show (((s.getD k mth0).1,(s.getD k mth0).2.1,(s.getD k mth0).2.2.1,(s.getD k mth0).2.2.2.1,(s.getD k mth0).2.2.2.2.1,(s.getD k mth0).2.2.2.2.2.1,(s.getD k mth0).2.2.2.2.2.2.1,(s.getD k mth0).2.2.2.2.2.2.2):Mth)=s.getD k mth0 from rfl]
  rw [hq]
  simp only [zAB,zAE]
  rw [wI (by omega) (by omega)]
  by_cases e:zAp c0 (s.getD k mth0).2.1=a∧zAp c0 (s.getD k mth0).2.2.1=b
  ·rw [if_pos e];exact .inl ⟨e,rfl⟩
  ·rw [if_neg e];exact .inr ⟨e,rfl⟩
theorem q86 (f:Int) (h0:0≤f) (h1:f≤255):F86 f=some (decide (has f 8)):=by
 simp only [F86,and8 h0 h1,Bool.not_not]
theorem q85 (c:Cls) (i:Nat) (hp:bndP c.1) (hf:0≤c.2.1∧c.2.1≤255) (hl:c.2.2.2.2.2.2.length≤1048576) (hm:∀ m∈c.2.2.2.2.2.2,0≤m.1∧m.1≤255) (hi:i<c.2.2.2.2.2.2.length):F85 (c,(i:Int))=some (decide (zJU c i)):=by
 obtain ⟨c0,c1,c2,c3,c4,c5,c6⟩:=c
 obtain ⟨hf0,hf1⟩:=hf
 simp only at hp hf0 hf1 hl hm hi
 have h0:(0:Int)≤i:=by omega
 have h2:(i:Int)≤c6.length:=by omega
 have hmi:0≤(c6.getD i mth0).1∧(c6.getD i mth0).1≤255:=by
  rw [List.getD_eq_getElem?_getD,List.getElem?_eq_getElem hi]
  exact hm _ (List.getElem_mem hi)
 have hF:zJU (c0,c1,c2,c3,c4,c5,c6) i↔(zAu c0 (c6.getD i mth0).2.1 Nm∧zAu c0 (c6.getD i mth0).2.2.1 Dsc∧((0≤(c6.getD i mth0).1∧(c6.getD i mth0).1≤15)∧(txt c0 (c6.getD i mth0).2.1=[98,101,103,105,110]→(c6.getD i mth0).1=1∧txt c0 (c6.getD i mth0).2.2.1=[40,41,86])∧(has (c6.getD i mth0).1 8→(c6.getD i mth0).1=8∧has c1 4)∧(¬ has (c6.getD i mth0).1 8→has c1 1→(c6.getD i mth0).1=1)) ∧
   ∀ k,k<i→¬ (zAp c0 (c6.getD k mth0).2.1=zAp c0 (c6.getD i mth0).2.1∧zAp c0 (c6.getD k mth0).2.2.1=zAp c0 (c6.getD i mth0).2.2.1)):=Iff.rfl
 simp only [F85,h0,decide_true,zAG,Int.toNat_natCast]
 rw [zBP mth0 hi]
 generalize c6.getD i mth0=x at hF hmi ⊢
 obtain ⟨x0,x1,x2,x3,x4,x5,x6,x7⟩:=x
 obtain ⟨hm0,hm1⟩:=hmi
 simp only at hF hm0 hm1
 simp only [zSb _ _ hp,zUs _ _ hp,q89,zAB,zAS]
 have z111:∀ i,F111 ((c0,c1,c2,c3,c4,c5,c6),i)=some (zAp c0 i):=fun i=>q111 (c0,c1,c2,c3,c4,c5,c6) i hp
 have z165:F165 (c0,c1,c2,c3,c4,c5,c6)=some (decide (has c1 1)):=q165 (c0,c1,c2,c3,c4,c5,c6) ⟨hf0,hf1⟩
 have z86:=q86 x0 hm0 hm1
 by_cases b1:zAu c0 x1 Nm
 ·rw [decide_eq_true b1,zAJ]
  by_cases b2:zAu c0 x2 Dsc
  ·rw [decide_eq_true b2,zAJ]
   by_cases b3:0≤x0∧x0≤15
   ·rw [decide_eq_true b3,zAJ,zAC]
    simp only [z111,zAB,eq_self,decide_true,Bool.and_true,Bool.and_self,zAG,zAV,zTq]
    rw [zAs b1.1,zAs b2.1]
    cases d5:decide (has x0 8) <;> cases d8:decide (x0=8) <;> cases d6:decide (has c1 4) <;> cases d7:decide (has c1 1) <;> cases d9:decide (x0=1) <;>
     simp only [z86,z165,zAB,d5,d8,d7,d9,and4 hf0 hf1,d6,zAJ,zAK,Bool.not_true,Bool.not_false,zAC,zAH]
    all_goals simp only [decide_eq_true_eq,decide_eq_false_iff_not] at d5 d6 d7 d8 d9
    all_goals first
     | (refine sd ?_
        rw [hF]
        refine iff_of_false (by simp) fun h=>?_
        obtain ⟨_,_,⟨_,_,k1,k2⟩,_⟩:=h
        first
         | exact d8 (k1 d5).1
         | exact d6 (k1 d5).2
         | exact d9 (k2 d5 d7))
     | skip
    all_goals
     have e1:has x0 8→x0=8∧has c1 4:=fun h=>by first | exact ⟨d8,d6⟩ | exact absurd h d5
     have e2:¬ has x0 8→has c1 1→x0=1:=fun h h'=>by first | exact d9 | exact absurd h' d7 | exact absurd d5 h
     have k2:=d9
     clear d5 d6 d7 d8 d9
     cases k1:decide (txt c0 x1=[98,101,103,105,110]) <;> cases k3:decide (txt c0 x2=[40,41,86]) <;> simp only [k1,k3,Bool.not_true,Bool.not_false,zAJ,zAK,zAC,zAH]
     all_goals simp only [decide_eq_true_eq,decide_eq_false_iff_not] at k1 k3
     all_goals first
      | (refine sd ?_
         rw [hF]
         refine iff_of_false (by simp) fun h=>?_
         obtain ⟨_,_,⟨_,g1,_,_⟩,_⟩:=h
         first
          | exact k2 (g1 k1).1
          | exact k3 (g1 k1).2)
      | skip
     all_goals
      have e3:txt c0 x1=[98,101,103,105,110]→x0=1∧txt c0 x2=[40,41,86]:=fun h=>by first | exact ⟨k2,k3⟩ | exact absurd h k1
      clear k1 k2 k3
      obtain ⟨b,e,hb⟩:=q170168 (c0,c1,c2,c3,c4,c5,c6) (c6.take i) (txt c0 x1) (txt c0 x2) hp (by simp only [List.length_take];omega)
      simp only [h0,h2,decide_true,Bool.and_self,zAG,Int.toNat_natCast,List.drop_zero]
      rw [e]
      simp only [zAB]
      refine sd ?_
      rw [hF,zAs b1.1,zAs b2.1]
      have hbi:b=false↔∀ k,k<i→¬ (zAp c0 (c6.getD k mth0).2.1=txt c0 x1∧zAp c0 (c6.getD k mth0).2.2.1=txt c0 x2):=by
       rw [hb]
       simp only [List.length_take,Nat.min_eq_left (Nat.le_of_lt hi)]
       exact ⟨fun h k hk=>by have:=h k hk;rwa [zDi hk] at this,fun h k hk=>by rw [zDi hk];exact h k hk⟩
      rw [Bool.not_eq_true',hbi]
      exact ⟨fun h=>⟨b1,b2,⟨b3,e3,e1,e2⟩,h⟩,fun h=>h.2.2.2⟩
   ·rw [decide_eq_false b3,zAK,zAH]
    exact sd (by rw [hF];exact iff_of_false (by simp) fun h=>b3 h.2.2.1.1)
  ·rw [decide_eq_false b2,zAK,zAH]
   exact sd (by rw [hF];exact iff_of_false (by simp) fun h=>b2 h.2.1)
 ·rw [decide_eq_false b1,zAK,zAH]
  exact sd (by rw [hF];exact iff_of_false (by simp) fun h=>b1 h.1)
end Go.Proofs.YtdpapeledldifaaGreat
end
section
namespace Go.Stow
theorem zRn (op:Int) : -1≤argN op∧argN op≤2:=by unfold argN;repeat' split <;> omega
end Go.Stow
namespace Go.Proofs.YtdpapeledldifaaGreat
open Go Go.AM Go.TM Go.Stow
theorem q251 (op:Int):F251 op=some (argN op):=by
 simp only [F251,q107,zAB,zAE,zAo,zAC,zAH]
 unfold argN
 repeat' split
 all_goals first | rfl | (exfalso;omega)
theorem q90 (op:Int):F90 op=some (argN op):=by
 simp only [F90,q89,zAB,zAE,zAJ,zAo,zAC,zAH]
 unfold argN
 repeat' split
 all_goals first | rfl | (exfalso;omega)
theorem q252 (s:List UInt8) (op:Int) (hs:s.length≤2):F252 (s,op)=some (numB op s):=by
 match s,hs with
 | [],_=>rfl
 | [a],_ =>
   have ha:=a.toNat_lt
   have e0:∀ k:UInt8→Option Int,atO [a] 0 k=k a:=fun k=>rfl
   simp (discharger:=omega) only [F252,List.length_cons,List.length_nil,e0,wI,zAE,zAo,zAC,numB]
   rw [if_neg (by omega),if_neg (by omega)]
   rw [if_neg (show ¬ (32768:Int)≤(a.toNat:Int) by omega)]
   split <;> rfl
 | [a,b],_ =>
   have ha:=a.toNat_lt
   have hb:=b.toNat_lt
   have e0:∀ k:UInt8→Option Int,atO [a,b] 0 k=k a:=fun k=>rfl
   have e1:∀ k:UInt8→Option (Int×Int ⊕ Int),atO [a,b] 1 k=k b:=fun k=>rfl
   simp (discharger:=omega) only [F252,List.length_cons,List.length_nil,e0,e1,wI,zAE,zAo,zAC,numB]
   rw [if_neg (by omega),if_pos (by omega)]
   by_cases h1:op=1
   ·rw [if_pos h1]
    by_cases h2:(32768:Int)≤(a.toNat:Int)*256+(b.toNat:Int)
    ·rw [if_pos h2,if_pos ⟨h1,h2⟩]
    ·rw [if_neg h2,if_neg fun h=>h2 h.2]
   ·rw [if_neg h1,if_neg fun h=>h1 h.1]
theorem zSf {X Y R:Type} {f:X→Option (X ⊕ (Y ⊕ R))} {k:Y→Option R} (s:List UInt8) (mk:List InsP→Nat→X) (bad:R) (good:List InsP→R)
  (hend:∀ out,out.length≤s.length→bindE (zAF f (mk out s.length)) k=some (good out))
  (hbad:∀ out a (h:a<s.length),out.length≤a→(argN s[a].toNat<0∨((s.drop (a+1)).length:Int)<argN s[a].toNat)→bindE (zAF f (mk out a)) k=some bad)
  (hstep:∀ out a (h:a<s.length) (n:Nat),out.length≤a→argN s[a].toNat=n→n≤(s.drop (a+1)).length→f (mk out a)=some (.inl (mk (out++[((a:Int),(s[a].toNat:Int),numB s[a].toNat ((s.drop (a+1)).take n))]) (a+1+n)))) :
  ∀ (m a:Nat) (out:List InsP),s.length - a≤m→a≤s.length→out.length≤a→bindE (zAF f (mk out a)) k=some (match opsN m (a:Int) (s.drop a) with | some r=>good (out++r) | none=>bad):=by
 intro m
 induction m with
 | zero =>
   intro a out hm ha ho
   have:a=s.length:=by omega
   subst this
   rw [hend out ho,List.drop_eq_nil_of_le (Nat.le_refl _)]
   simp only [opsN,List.append_nil]
 | succ m ih =>
   intro a out hm ha ho
   by_cases h:a<s.length
   ·rw [zBT h]
    simp only [opsN]
    by_cases hb:argN s[a].toNat<0∨((s.drop (a+1)).length:Int)<argN s[a].toNat
    ·rw [if_pos hb,hbad out a h ho hb]
    ·rw [if_neg hb]
     have hn:argN s[a].toNat=((argN s[a].toNat).toNat:Int):=by omega
     generalize (argN s[a].toNat).toNat=n at hn
     have hle:n≤(s.drop (a+1)).length:=by omega
     have hd:(s.drop (a+1)).drop n=s.drop (a+1+n):=by rw [List.drop_drop]
     have hlen:a+1+n≤s.length:=by simp only [List.length_drop] at hle;omega
     rw [zCn (hstep out a h n ho hn hle),ih (a+1+n) _ (by omega) hlen (by simp only [List.length_append,List.length_cons,List.length_nil];omega),hn,hd]
     rw [show (((a+1+n:Nat)):Int)=(a:Int)+1+n by omega]
     cases opsN m ((a:Int)+1+n) (s.drop (a+1+n)) with
     | none=>rfl
     | some q=>simp only [Option.map_some,List.append_assoc,List.singleton_append]
   ·have:a=s.length:=by omega
    subst this
    rw [hend out ho,List.drop_eq_nil_of_le (Nat.le_refl _)]
    simp only [opsN,List.append_nil]
theorem q193 (s:List UInt8) (hs:s.length≤1048576):F193 s=some (opsV s):=by
 simp only [F193,zAE]
 refine (zSf s (fun out a=>(s,out,(a:Int))) ([],false) (fun r=>(r,decide ((0:Int)<r.length))) ?_ ?_ ?_ s.length 0 [] (by omega) (by omega) (by simp)).trans ?_
 ·intro out ho
  rw [zAj (y:=.inl out) (by simp only [Int.lt_irrefl,if_false]),zAC]
 ·intro out a h ho hb
  have h1:(a:Int)<s.length:=by omega
  have h0:(0:Int)≤a:=by omega
  have hr:=s[a].toNat_lt
  rw [zAj (y:=.inr ([],false)),zAH]
  simp (discharger:=omega) only [h1,h0,if_true,decide_true,zAG,Int.toNat_natCast,zAL,wI,q251,zAB]
  by_cases h2:argN s[a].toNat<0
  ·rw [if_pos h2,zAH]
  ·have h3:=(zRn s[a].toNat).2
   have h4:(s.length:Int)<(a:Int)+1+argN s[a].toNat:=by
    have:=hb.resolve_left h2
    simp only [List.length_drop] at this
    omega
   rw [if_neg h2,wI (by omega) (by omega),if_pos h4,zAH]
 ·intro out a h n ho hn hle
  have h1:(a:Int)<s.length:=by omega
  have h0:(0:Int)≤a:=by omega
  have hr:=s[a].toNat_lt
  have hn2:=(zRn s[a].toNat).2
  rw [hn] at hn2
  have h2:¬ ((n:Int)<0):=by omega
  have hle':=hle
  simp only [List.length_drop] at hle'
  have h4:¬ (s.length:Int)<(a:Int)+1+n:=by omega
  have g1:(0:Int)≤(a:Int)+1:=by omega
  have g2:(a:Int)+1≤(a:Int)+1+n:=by omega
  have g3:(a:Int)+1+n≤s.length:=by omega
  have t1:((a:Int)+1).toNat=a+1:=by omega
  have t2:((a:Int)+1+n).toNat=a+1+n:=by omega
  have hd:(s.take (a+1+n)).drop (a+1)=(s.drop (a+1)).take n:=by rw [List.drop_take];congr 1;omega
  have hl2:((s.drop (a+1)).take n).length≤2:=by simp only [List.length_take];omega
  have q5:out.length+1≤9223372036854775807:=by omega
  have q6:(out.length+1)*24≤140737488355328:=by omega
  simp (discharger:=omega) only [h1,h0,if_true,decide_true,zAG,Int.toNat_natCast,zAL,wI,q251,zAB,hn,h2,h4,if_false,zAC,g1,g2,g3,Bool.and_self,t1,t2,hd,q252 _ _ hl2,q5,q6]
  rfl
 ·rw [List.drop_zero]
  unfold opsV
  simp only [List.nil_append]
  show some (match opsN s.length (0:Int) s with | some r=>_ | none=>_)=_
  cases opsN s.length 0 s with
  | none=>rfl
  | some r =>
    cases r with
    | nil=>rfl
    | cons x r=>simp
def raw:List UInt8→Int
 | []=>0
 | [a]=>a.toNat
 | a :: b :: _=>256*(a.toNat:Int)+b.toNat
theorem raw_num (op:Int) (t:List UInt8):(op=1∧32767<raw t→raw t - 65536=numB op t)∧(¬ (op=1∧32767<raw t)→raw t=numB op t):=by
 match t with
 | []=>exact ⟨fun h=>absurd h.2 (by simp [raw]),fun _=>rfl⟩
 | [a] =>
   have:=a.toNat_lt
   exact ⟨fun h=>absurd h.2 (by simp only [raw];omega),fun _=>rfl⟩
 | a :: b :: l =>
   have:=a.toNat_lt
   have:=b.toNat_lt
   have hr:raw (a :: b :: l)=256*(a.toNat:Int)+b.toNat:=rfl
   have hn:numB op (a :: b :: l)=if op=1∧32768≤(a.toNat:Int)*256+b.toNat then (a.toNat:Int)*256+b.toNat - 65536 else (a.toNat:Int)*256+b.toNat:=rfl
   rw [hr,hn]
   constructor
   ·intro h
    rw [if_pos ⟨h.1,by omega⟩]
    omega
   ·intro h
    rw [if_neg fun h'=>h ⟨h'.1,by omega⟩]
    omega
theorem raw_ran (t:List UInt8):0≤raw t∧raw t≤65535:=by
 match t with
 | []=>simp [raw]
 | [a]=>have:=a.toNat_lt;simp only [raw];omega
 | a :: b :: l=>have:=a.toNat_lt;have:=b.toNat_lt;simp only [raw];omega
theorem raw_loop {X Y R:Type} {f:X→Option (X ⊕ (Y ⊕ R))} {k:Y→Option R} (t:List UInt8) (mk:Int→Nat→X) (fin:Int→Y) (ht:t.length≤2) {x0:X} (hx:x0=mk 0 0)
  (hend:∀ acc,f (mk acc t.length)=some (.inr (.inl (fin acc))))
  (hstep:∀ acc i (h:i<t.length),0≤acc→acc≤255→f (mk acc i)=some (.inl (mk (256*acc+t[i].toNat) (i+1)))):bindE (zAF f x0) k=k (fin (raw t)):=by
 rw [hx]
 match t,ht with
 | [],_ =>
   have h1:f (mk 0 0)=some (.inr (.inl (fin 0))):=hend 0
   rw [zAj h1,zAC];rfl
 | [a],_ =>
   have:=a.toNat_lt
   have h0:f (mk 0 0)=some (.inl (mk (a.toNat:Int) 1)):=by have:=hstep 0 0 (by simp) (by omega) (by omega);simpa using this
   have h1:f (mk (a.toNat:Int) 1)=some (.inr (.inl (fin (a.toNat:Int)))):=hend _
   rw [zCn h0,zAj h1,zAC];rfl
 | [a,b],_ =>
   have ha:=a.toNat_lt
   have hb:=b.toNat_lt
   have h0:f (mk 0 0)=some (.inl (mk (a.toNat:Int) 1)):=by have:=hstep 0 0 (by simp) (by omega) (by omega);simpa using this
   have h1:f (mk (a.toNat:Int) 1)=some (.inl (mk (256*(a.toNat:Int)+b.toNat) 2)):=by have:=hstep (a.toNat:Int) 1 (by simp) (by omega) (by omega);simpa using this
   have h2:f (mk (256*(a.toNat:Int)+b.toNat) 2)=some (.inr (.inl (fin (256*(a.toNat:Int)+b.toNat)))):=hend _
   rw [zCn h0,zCn h1,zAj h2,zAC];rfl
theorem q31 (s:List UInt8) (hs:s.length≤120):F31 s=some (opsV s):=by
 simp only [F31,q89,zAB,zAS,zAE]
 by_cases hr:(1:Int)≤s.length∧(s.length:Int)≤120
 ·rw [if_pos hr]
  refine (zSf s (fun out a=>(s,out,(a:Int))) ([],false) (fun r=>(r,true)) ?_ ?_ ?_ s.length 0 [] (by omega) (by omega) (by simp)).trans ?_
  ·intro out ho
   rw [zAj (y:=.inl out) (by simp only [Int.lt_irrefl,if_false]),zAC]
  ·intro out a h ho hb
   have h1:(a:Int)<s.length:=by omega
   have h0:(0:Int)≤a:=by omega
   have hrr:=s[a].toNat_lt
   rw [zAj (y:=.inr ([],false)),zAH]
   simp (discharger:=omega) only [h1,h0,if_true,decide_true,zAG,Int.toNat_natCast,zAL,wI,q90,zAB]
   by_cases h2:argN s[a].toNat<0
   ·rw [if_pos h2];rfl
   ·have h4:(s.length:Int) - a≤argN s[a].toNat:=by
     have:=hb.resolve_left h2
     simp only [List.length_drop] at this
     omega
    rw [if_neg h2,if_pos h4];rfl
  ·intro out a h n ho hn hle
   have h1:(a:Int)<s.length:=by omega
   have h0:(0:Int)≤a:=by omega
   have hrr:=s[a].toNat_lt
   have hn2:=(zRn s[a].toNat).2
   rw [hn] at hn2
   have h2:¬ ((n:Int)<0):=by omega
   have hle':=hle
   simp only [List.length_drop] at hle'
   have h4:¬ (s.length:Int) - a≤(n:Int):=by omega
   have g1:(0:Int)≤(a:Int)+1:=by omega
   have g2:(a:Int)+1≤(a:Int)+1+n:=by omega
   have g3:(a:Int)+1+n≤s.length:=by omega
   have t1:((a:Int)+1).toNat=a+1:=by omega
   have t2:((a:Int)+1+n).toNat=a+1+n:=by omega
   have hd:(s.take (a+1+n)).drop (a+1)=(s.drop (a+1)).take n:=by rw [List.drop_take];congr 1;omega
   have hl2:((s.drop (a+1)).take n).length≤2:=by simp only [List.length_take];omega
   have q5:out.length+1≤9223372036854775807:=by omega
   have q6:(out.length+1)*24≤140737488355328:=by omega
   simp (discharger:=omega) only [h1,h0,if_true,decide_true,zAG,Int.toNat_natCast,zAL,wI,q90,zAB,hn,h2,h4,if_false,zAC,g1,g2,g3,Bool.and_self,t1,t2,hd]
   generalize (s.drop (a+1)).take n=t at hl2
   generalize s[a]=x at hrr
   have hk:=raw_num x.toNat t
   have hrr2:=raw_ran t
   refine (congrArg (bindE · _) (raw_loop t (fun acc i=>(s,out,(a:Int),(n:Int),t,(t.length:Int),(i:Int),(a:Int),(x.toNat:Int),acc)) (fun acc=>(s,out,(a:Int),(n:Int),(a:Int),(x.toNat:Int),acc)) hl2 rfl ?_ ?_)).trans ?_
   ·intro acc
    simp only [Int.lt_irrefl,if_false]
   ·intro acc i hi ha0 ha1
    have i1:(i:Int)<t.length:=by omega
    have i0:(0:Int)≤i:=by omega
    have:=t[i].toNat_lt
    simp (discharger:=omega) only [i1,i0,if_true,decide_true,zAG,Int.toNat_natCast,zAL,wI]
    rfl
   ·have e:(if (if (x.toNat:Int)=1 then decide (32767<raw t) else false)=true then raw t - 65536 else raw t)=numB x.toNat t:=by
     by_cases hc:(x.toNat:Int)=1∧32767<raw t
     ·rw [← hk.1 hc];simp [hc.1,hc.2]
     ·rw [← hk.2 hc]
      by_cases h1:(x.toNat:Int)=1
      ·have:¬ 32767<raw t:=fun h=>hc ⟨h1,h⟩
       simp [h1,this]
      ·simp [h1]
    rw [← e]
    simp only
    by_cases c1:(x.toNat:Int)=1
    ·simp only [if_pos c1,zAC]
     by_cases c2:32767<raw t
     ·simp (discharger:=omega) only [c2,decide_true,zAJ,zAE,zAC,if_true,q5,q6,Bool.and_self,zAG,wI]
      rw [show (a:Int)+(1+(n:Int))=((a+1+n:Nat):Int) by omega]
     ·simp (discharger:=omega) only [c2,decide_false,zAK,zAE,zAC,if_false,Bool.false_eq_true,q5,q6,decide_true,Bool.and_self,zAG,wI]
      rw [show (a:Int)+(1+(n:Int))=((a+1+n:Nat):Int) by omega]
    ·simp (discharger:=omega) only [if_neg c1,zAC,zAK,Bool.false_eq_true,if_false,q5,q6,decide_true,Bool.and_self,zAG,wI]
     rw [show (a:Int)+(1+(n:Int))=((a+1+n:Nat):Int) by omega]
  ·rw [List.drop_zero]
   unfold opsV
   simp only [List.nil_append]
   show some (match opsN s.length (0:Int) s with | some r=>_ | none=>_)=_
   cases he:opsN s.length 0 s with
   | none=>rfl
   | some r =>
     cases r with
     | nil =>
       exfalso
       cases s with
       | nil=>simp at hr
       | cons x l =>
         simp only [List.length_cons,opsN] at he
         split at he
         ·cases he
         ·cases ho:opsN l.length (0+1+argN x.toNat) (l.drop (argN x.toNat).toNat) with
          | none=>rw [ho] at he;cases he
          | some q=>rw [ho] at he;simp at he
     | cons x r=>rfl
 ·rw [if_neg hr]
  have:s=[]:=List.length_eq_zero_iff.1 (by omega)
  subst this
  rfl
end Go.Proofs.YtdpapeledldifaaGreat
end
section
namespace Go.Stow
theorem zAg {α:Type} {l:List α} (d:α) {P:α→Prop}:(∀ x∈l,P x)↔∀ i,i<l.length→P (l.getD i d):=by
 constructor
 ·intro h i hi
  rw [List.getD_eq_getElem?_getD,List.getElem?_eq_getElem hi]
  exact h _ (List.getElem_mem hi)
 ·intro h x hx
  obtain ⟨i,hi,rfl⟩:=List.mem_iff_getElem.1 hx
  have:=h i hi
  rwa [List.getD_eq_getElem?_getD,List.getElem?_eq_getElem hi] at this
theorem zSh:∀ (m:Nat) (a:Int) (s:List UInt8) (r:List InsP),opsN m a s=some r→r.length≤m
 | 0,a,[],r,h=>by simp only [opsN,Option.some.injEq] at h;simp [← h]
 | _+1,a,[],r,h=>by simp only [opsN,Option.some.injEq] at h;simp [← h]
 | 0,a,_ :: _,r,h=>by simp [opsN] at h
 | m+1,a,x :: l,r,h=>by
   simp only [opsN] at h
   split at h
   ·cases h
   ·cases ho:opsN m (a+1+argN x.toNat) (l.drop (argN x.toNat).toNat) with
    | none=>rw [ho] at h;cases h
    | some q =>
      rw [ho] at h
      simp only [Option.map_some,Option.some.injEq] at h
      have:=zSh m _ _ q ho
      rw [← h]
      simp only [List.length_cons]
      omega
theorem zSg (s:List UInt8):(opsV s).1.length≤s.length:=by
 unfold opsV
 cases h:opsN s.length 0 s with
 | none=>simp
 | some r =>
   cases r with
   | nil=>simp
   | cons x r=>exact zSh _ _ _ _ h
theorem zSi:∀ (k:Nat) (l:List UInt8) (ts:List (List UInt8)) (b:List UInt8),more k l=some (ts,b)→ts.length≤k
 | 0,[],ts,b,h=>by simp [more] at h
 | _+1,[],ts,b,h=>by simp [more] at h
 | 0,x :: l,ts,b,h=>by
   simp only [more] at h
   split at h
   ·simp only [Option.some.injEq,Prod.mk.injEq] at h;rw [← h.1];simp
   ·cases h
 | k+1,x :: l,ts,b,h=>by
   rw [zFk] at h
   split at h
   ·simp only [Option.some.injEq,Prod.mk.injEq] at h;rw [← h.1];simp
   ·cases ho:one (x :: l) with
    | none=>rw [ho] at h;cases h
    | some p =>
      rw [ho] at h
      simp only [Option.bind_some] at h
      cases hm:more k p.2 with
      | none=>rw [hm] at h;cases h
      | some q =>
        obtain ⟨q1,q2⟩:=q
        rw [hm] at h
        simp only [Option.map_some,Option.some.injEq,Prod.mk.injEq] at h
        have:=zSi k _ _ _ hm
        rw [← h.1]
        simp only [List.length_cons]
        omega
theorem zVr (s:List UInt8):(dsc s).1.length≤4:=by
 cases s with
 | nil=>simp [dsc]
 | cons x l =>
   simp only [dsc]
   split
   ·cases h:more 4 l with
    | none=>simp
    | some p =>
      obtain ⟨ts,b⟩:=p
      simp only
      split
      ·exact zSi 4 l ts b h
      ·simp
   ·simp
end Go.Stow
namespace Go.Proofs.YtdpapeledldifaaGreat
open Go Go.AM Go.TM Go.Stow
theorem q254 (l:List InsP) (a:Int) (hl:l.length≤1048576):F254 (l,a)=some (opI l a):=by
 simp only [F254,zAE]
 refine (zIP (fun i=>(l,a,(i:Int))) () l (fun x=>decide (x.1=a)) (fun i=>(i:Int)) rfl ?_ ?_).trans ?_
 ·simp only [Int.lt_irrefl,if_false]
 ·intro i hi
  have i1:(i:Int)<l.length:=by omega
  have i0:(0:Int)≤i:=by omega
  simp (discharger:=omega) only [i1,i0,if_true,decide_true,zAG,Int.toNat_natCast,zAL,wI,decide_eq_true_eq]
  split <;> rfl
 ·unfold opI
  cases l.findIdx? (fun x=>decide (x.1=a)) <;> rfl
theorem q291 (op:Int):F291 op=some (want op):=by
 simp only [F291,zAE,zAJ,zAo,zAC,zAH]
 unfold want
 repeat' split
 all_goals first | rfl | (exfalso;omega)
theorem q246 (c:Cls) (m:Mth) (l:List InsP) (x:InsP) (hp:bndP c.1) (hl:l.length≤1048576):F246 (c,m,l,x)=some (decide (zGF c.1 m.2.2.2.2.1 l x)):=by
 obtain ⟨c0,c1,c2,c3,c4,c5,c6⟩:=c
 obtain ⟨m0,m1,m2,m3,m4,m5,m6,m7⟩:=m
 obtain ⟨x0,x1,x2⟩:=x
 simp only at hp
 have hI:zGF c0 m4 l (x0,x1,x2)↔((3≤x1∧x1≤6→x2<m4)∧(14≤x1∧x1≤18→0≤opI l x2)∧(want x1≠0→(zAU c0 x2).1=want x1)):=Iff.rfl
 simp only [F246,q107,q254 _ _ hl,q291,q133 _ _ _ hp,zAB,zAE]
 by_cases h1:3≤x1∧x1≤6
 ·rw [if_pos h1]
  have h2:¬ (14≤x1∧x1≤18):=by omega
  have h3:want x1=0:=by unfold want;repeat' split <;> omega
  exact sd (by rw [hI,decide_eq_true_iff];simp [h1,h2,h3])
 ·rw [if_neg h1]
  by_cases h2:14≤x1∧x1≤18
  ·rw [if_pos h2]
   have h3:want x1=0:=by unfold want;repeat' split <;> omega
   exact sd (by rw [hI,decide_eq_true_iff];simp [h1,h2,h3])
  ·rw [if_neg h2]
   by_cases h3:want x1=0
   ·rw [if_pos h3]
    exact sd (by rw [hI];simp [h1,h2,h3])
   ·rw [if_neg h3]
    exact sd (by rw [hI,decide_eq_true_iff];simp [h1,h2,h3])
theorem q247 (c:Cls) (m:Mth) (l:List InsP) (t:Trp) (hp:bndP c.1) (hl:l.length≤1048576):F247 (c,m,l,t)=some (decide (zDO c.1 m.2.2.2.2.2.1.length l t)):=by
 obtain ⟨c0,c1,c2,c3,c4,c5,c6⟩:=c
 obtain ⟨m0,m1,m2,m3,m4,m5,m6,m7⟩:=m
 obtain ⟨t0,t1,t2,t3⟩:=t
 simp only at hp
 have hI:zDO c0 m5.length l (t0,t1,t2,t3)↔(t0<t1∧0≤opI l t0∧(t1=(m5.length:Int)∨0≤opI l t1)∧0≤opI l t2∧(t3=0∨zBS c0 t3)):=Iff.rfl
 simp only [F247,q254 _ _ hl,zAB,zAS,zAE]
 by_cases h1:t1≤t0
 ·rw [if_pos h1,zAH]
  exact sd (by rw [hI];exact iff_of_false (by simp) fun h=>by omega)
 rw [if_neg h1]
 by_cases h2:opI l t0<0
 ·rw [if_pos h2,zAH]
  exact sd (by rw [hI];exact iff_of_false (by simp) fun h=>by omega)
 rw [if_neg h2]
 have hfin:(t1=(m5.length:Int)∨0≤opI l t1)→(bindE (if opI l t2<0 then some (Sum.inr false) else some (Sum.inl ((c0,c1,c2,c3,c4,c5,c6),t0,t1,t2,t3)):Option ((Cls×Int×Int×Int×Int) ⊕ Bool)) fun (x:Cls×Int×Int×Int×Int) =>
   if x.2.2.2.2=0 then some true else zAA (F130 (x.1.1,x.2.2.2.2)) fun y=>some (!decide (y=[])))=some (decide (zDO c0 m5.length l (t0,t1,t2,t3))):=by
  intro h3
  by_cases h4:opI l t2<0
  ·rw [if_pos h4,zAH]
   exact sd (by rw [hI];exact iff_of_false (by simp) fun h=>by omega)
  rw [if_neg h4,zAC]
  simp only [q130 _ _ hp,zAB]
  by_cases h5:t3=0
  ·rw [if_pos h5]
   exact sd (by rw [hI];exact iff_of_true rfl ⟨by omega,by omega,h3,by omega,.inl h5⟩)
  ·rw [if_neg h5]
   refine sd ?_
   rw [hI]
   simp only [Bool.not_eq_true',decide_eq_false_iff_not]
   rw [show (¬ clsN c0 t3=[])↔zBS c0 t3 from zDL]
   exact ⟨fun h=>⟨by omega,by omega,h3,by omega,.inr h⟩,fun h=>h.2.2.2.2.resolve_left h5⟩
 by_cases h3:t1=(m5.length:Int)
 ·rw [if_pos h3]
  exact hfin (.inl h3)
 ·rw [if_neg h3]
  by_cases h4:opI l t1<0
  ·rw [if_pos h4,zAH]
   exact sd (by rw [hI];exact iff_of_false (by simp) fun h=>by omega)
  ·rw [if_neg h4]
   exact hfin (.inr (by omega))
theorem q292 (c:Cls) (l:List Knd) (hp:bndP c.1) (hl:l.length≤1048576):F292 (c,l)=some (decide (zBW c.1 l)):=by
 obtain ⟨c0,c1,c2,c3,c4,c5,c6⟩:=c
 simp only at hp
 simp only [F292,zAE]
 refine zFV (fun i=>(l,(i:Int),c0,c1,c2,c3,c4,c5,c6)) () false l.length (fun i=>zIa c0 (l.getD i (0,0))) rfl ?_ ?_ ?_ ?_
 ·simp only [Int.lt_irrefl,if_false]
 ·intro i hi
  have i1:(i:Int)<l.length:=by omega
  have i0:(0:Int)≤i:=by omega
  simp only [i1,i0,if_true,decide_true,zAG,Int.toNat_natCast]
  simp only [zBP ((0,0):Knd) hi]
  generalize l.getD i (0,0)=x
  have hK:zIa c0 x↔((0≤x.1∧x.1≤3)∧(x.1=3→zBS c0 x.2)∧(x.1≠3→x.2=0)):=Iff.rfl
  simp only [q107,q130 _ _ hp,zAB,zAS,zAE]
  by_cases h1:0≤x.1∧x.1≤3
  ·rw [if_pos h1]
   by_cases h2:x.1=3
   ·rw [if_pos h2,if_pos h2]
    by_cases h3:clsN c0 x.2=[]
    ·rw [if_pos h3]
     exact .inr ⟨fun h=>zDL.2 ((hK.1 h).2.1 h2) h3,rfl⟩
    ·rw [if_neg h3]
     refine .inl ⟨hK.2 ⟨h1,fun _=>zDL.1 h3,fun h=>absurd h2 h⟩,?_⟩
     simp only [zAC]
     rw [wI (by omega) (by omega)];rfl
   ·rw [if_neg h2,if_neg h2]
    by_cases h3:x.2=0
    ·rw [if_pos h3]
     refine .inl ⟨hK.2 ⟨h1,fun h=>absurd h h2,fun _=>h3⟩,?_⟩
     simp only [zAC]
     rw [wI (by omega) (by omega)];rfl
    ·rw [if_neg h3]
     exact .inr ⟨fun h=>h3 ((hK.1 h).2.2 h2),rfl⟩
  ·rw [if_neg h1]
   exact .inr ⟨fun h=>h1 (hK.1 h).1,rfl⟩
 ·intro h
  exact sd (iff_of_true rfl ((zAg (0,0)).2 h))
 ·intro h
  exact sd (iff_of_false (by simp) fun h'=>h ((zAg (0,0)).1 h'))
theorem q245 (c:Cls) (m:Mth) (hp:bndP c.1) (hm:0≤m.1∧m.1≤255):F245 (c,m)=some (takes c.1 m):=by
 obtain ⟨c0,c1,c2,c3,c4,c5,c6⟩:=c
 obtain ⟨m0,m1,m2,m3,m4,m5,m6,m7⟩:=m
 obtain ⟨hm0,hm1⟩:=hm
 simp only at hp hm0 hm1
 have hd:=zVr (txt c0 m2)
 simp only [F245,q131 _ _ hp,n214 _ (zDB hp _),q108 hm0 hm1 (show (1:Int)≤1 by omega),zAB,zAE,takes]
 split
 ·rfl
 ·rw [wI (by omega) (by omega)]
theorem q248 (c:Cls) (m:Mth) (l:List InsP) (hp:bndP c.1) (hl:l.length≤1048576) (hm:m.2.2.2.2.2.2.2.length≤1048576) (hk:∀ f∈m.2.2.2.2.2.2.2,bFrm f):F248 (c,m,l)=some (decide (zQO c.1 m l)):=by
 obtain ⟨c0,c1,c2,c3,c4,c5,c6⟩:=c
 obtain ⟨m0,m1,m2,m3,m4,m5,m6,m7⟩:=m
 simp only at hp hm hk
 simp only [F248,zAE]
 refine zFV (fun i=>(l,(i:Int),(c0,c1,c2,c3,c4,c5,c6),m0,m1,m2,m3,m4,m5,m6,m7)) () false m7.length (zWF c0 (m0,m1,m2,m3,m4,m5,m6,m7) l) rfl ?_ ?_ ?_ ?_
 ·simp only [Int.lt_irrefl,if_false]
 ·intro i hi
  have i1:(i:Int)<m7.length:=by omega
  have i0:(0:Int)≤i:=by omega
  have hF:zWF c0 (m0,m1,m2,m3,m4,m5,m6,m7) l i↔(0≤opI l (m7.getD i (0,[],[])).1∧(0<i→(m7.getD (i - 1) (0,[],[])).1<(m7.getD i (0,[],[])).1)∧((m7.getD i (0,[],[])).2.1.length:Int)=m4∧((m7.getD i (0,[],[])).2.2.length:Int)≤m3∧zBW c0 (m7.getD i (0,[],[])).2.1∧zBW c0 (m7.getD i (0,[],[])).2.2):=Iff.rfl
  have hb:bFrm (m7.getD i (0,[],[])):=(zAg (P:=bFrm) (0,[],[])).1 hk i hi
  simp only [i1,i0,if_true,decide_true,zAG,Int.toNat_natCast]
  rw [zBP (0,[],[]) hi]
  rw [hF]
  generalize m7.getD i (0,[],[])=x at hb
  have z1:F292 ((c0,c1,c2,c3,c4,c5,c6),x.2.1)=some (decide (zBW c0 x.2.1)):=q292 (c0,c1,c2,c3,c4,c5,c6) x.2.1 hp hb.1
  have z2:F292 ((c0,c1,c2,c3,c4,c5,c6),x.2.2)=some (decide (zBW c0 x.2.2)):=q292 (c0,c1,c2,c3,c4,c5,c6) x.2.2 hp hb.2
  simp only [q254 _ _ hl,z1,z2,zAB,zAS,zAE]
  by_cases h1:opI l x.1<0
  ·rw [if_pos h1]
   exact .inr ⟨fun h=>by omega,rfl⟩
  rw [if_neg h1]
  have hrest:(0<i→(m7.getD (i - 1) (0,[],[])).1<x.1)→∀ F:Option ((List InsP×Int×Cls×Mth) ⊕ ((List InsP×Int×Cls×Mth) ⊕ (Unit ⊕ Bool)))→Option ((List InsP×Int×Cls×Mth) ⊕ (Unit ⊕ Bool)),F (some (.inr (.inr (.inr false))))=some (.inr (.inr false)) →
    F (some (.inl (l,(i:Int),(c0,c1,c2,c3,c4,c5,c6),m0,m1,m2,m3,m4,m5,m6,m7)))=some (.inl (l,((i+1:Nat):Int),(c0,c1,c2,c3,c4,c5,c6),m0,m1,m2,m3,m4,m5,m6,m7)) →
    ((0≤opI l x.1∧(0<i→(m7.getD (i - 1) (0,[],[])).1<x.1)∧(x.2.1.length:Int)=m4∧(x.2.2.length:Int)≤m3∧zBW c0 x.2.1∧zBW c0 x.2.2) ∧
      F (if (x.2.1.length:Int)=m4 then if m3<(x.2.2.length:Int) then some (.inr (.inr (.inr false))) else if zBW c0 x.2.1 then if zBW c0 x.2.2 then some (.inl (l,(i:Int),(c0,c1,c2,c3,c4,c5,c6),m0,m1,m2,m3,m4,m5,m6,m7)) else some (.inr (.inr (.inr false))) else some (.inr (.inr (.inr false))) else some (.inr (.inr (.inr false))))=some (.inl (l,((i+1:Nat):Int),(c0,c1,c2,c3,c4,c5,c6),m0,m1,m2,m3,m4,m5,m6,m7))) ∨
    (¬ (0≤opI l x.1∧(0<i→(m7.getD (i - 1) (0,[],[])).1<x.1)∧(x.2.1.length:Int)=m4∧(x.2.2.length:Int)≤m3∧zBW c0 x.2.1∧zBW c0 x.2.2) ∧
     F (if (x.2.1.length:Int)=m4 then if m3<(x.2.2.length:Int) then some (.inr (.inr (.inr false))) else if zBW c0 x.2.1 then if zBW c0 x.2.2 then some (.inl (l,(i:Int),(c0,c1,c2,c3,c4,c5,c6),m0,m1,m2,m3,m4,m5,m6,m7)) else some (.inr (.inr (.inr false))) else some (.inr (.inr (.inr false))) else some (.inr (.inr (.inr false))))=some (.inr (.inr false))):=by
   intro h2 F f1 f2
   by_cases h3:(x.2.1.length:Int)=m4
   ·rw [if_pos h3]
    by_cases h4:m3<(x.2.2.length:Int)
    ·rw [if_pos h4];exact .inr ⟨fun h=>by omega,f1⟩
    ·rw [if_neg h4]
     by_cases h5:zBW c0 x.2.1
     ·rw [if_pos h5]
      by_cases h6:zBW c0 x.2.2
      ·rw [if_pos h6];exact .inl ⟨⟨by omega,h2,h3,by omega,h5,h6⟩,f2⟩
      ·rw [if_neg h6];exact .inr ⟨fun h=>h6 h.2.2.2.2.2,f1⟩
     ·rw [if_neg h5];exact .inr ⟨fun h=>h5 h.2.2.2.2.1,f1⟩
   ·rw [if_neg h3];exact .inr ⟨fun h=>h3 h.2.2.1,f1⟩
  by_cases h2:(0:Int)<i
  ·have j1:((i:Int) - 1).toNat=i - 1:=by omega
   have j0:(0:Int)≤(i:Int) - 1:=by omega
   have jl:i - 1<m7.length:=by omega
   rw [if_pos h2]
   simp (discharger:=omega) only [wI,j0,decide_true,zAG,j1]
   rw [zBP (0,[],[]) jl]
   by_cases h3:x.1≤(m7.getD (i - 1) (0,[],[])).1
   ·rw [if_pos h3]
    exact .inr ⟨fun h=>by have:=h.2.1 (by omega);omega,rfl⟩
   ·rw [if_neg h3]
    refine hrest (fun _=>by omega) (bindE · _) rfl ?_
    simp only [zAC]
    rw [wI (by omega) (by omega)];rfl
  ·rw [if_neg h2]
   refine hrest (fun h=>absurd h (by omega)) (bindE · _) rfl ?_
   simp only [zAC]
   rw [wI (by omega) (by omega)];rfl
 ·intro h
  exact sd (iff_of_true rfl h)
 ·intro h
  exact sd (iff_of_false (by simp) h)
end Go.Proofs.YtdpapeledldifaaGreat
end
section
namespace Go.Proofs.YtdpapeledldifaaGreat
open Go Go.AM Go.TM Go.Stow
theorem q178 (c:Cls) (m:Mth) (hp:bndP c.1) (hm:0≤m.1∧m.1≤255) (hb:bMth m):F178 (c,m)=some (decide (¬ has m.1 8→zCN c.1 m)):=by
 have z245:=q245 c m hp hm
 obtain ⟨c0,c1,c2,c3,c4,c5,c6⟩:=c
 obtain ⟨m0,m1,m2,m3,m4,m5,m6,m7⟩:=m
 obtain ⟨hm0,hm1⟩:=hm
 obtain ⟨b1,b2,b3,b4⟩:=hb
 simp only at hp hm0 hm1 b1 b2 b3 b4 z245
 have hlen:=zSg m5
 have hB:zCN c0 (m0,m1,m2,m3,m4,m5,m6,m7)↔((opsV m5).2=true∧m3≤8∧(takes c0 (m0,m1,m2,m3,m4,m5,m6,m7)≤m4∧m4≤8)∧(∀ x∈(opsV m5).1,zGF c0 m4 (opsV m5).1 x)∧(∀ t∈m6,zDO c0 m5.length (opsV m5).1 t)∧zQO c0 (m0,m1,m2,m3,m4,m5,m6,m7) (opsV m5).1):=Iff.rfl
 simp only [F178,q108 hm0 hm1 (show (1:Int)≤8 by omega),q193 _ b1,zAB,zAE,zAS]
 by_cases h0:has m0 8
 ·rw [if_pos h0]
  exact sd (iff_of_true rfl fun h=>absurd h0 h)
 rw [if_neg h0]
 have hgo:∀ b:Bool,(b=true↔zCN c0 (m0,m1,m2,m3,m4,m5,m6,m7))→some b=some (decide (¬ has m0 8→zCN c0 (m0,m1,m2,m3,m4,m5,m6,m7))):=fun b hb=>sd (hb.trans ⟨fun h _=>h,fun h=>h h0⟩)
 generalize hv:opsV m5=v at hlen hB
 obtain ⟨ops,ok⟩:=v
 simp only at hlen hB ⊢
 have hol:ops.length≤1048576:=by omega
 cases ok with
 | false =>
   rw [zAK,zAH]
   exact hgo false (by rw [hB];exact iff_of_false (by simp) fun h=>by cases h.1)
 | true =>
   rw [zAJ]
   by_cases h1:8<m3
   ·rw [if_pos h1,zAH]
    exact hgo false (by rw [hB];exact iff_of_false (by simp) fun h=>by omega)
   rw [if_neg h1,z245,zAB]
   simp only [eq_self,decide_true,zAG,zAV,q107,zAB,zAE]
   by_cases h2:takes c0 (m0,m1,m2,m3,m4,m5,m6,m7)≤m4∧m4≤8
   ·rw [if_pos h2,zAC]
    simp only
    refine zFV (fun i=>(ops,(i:Int),(c0,c1,c2,c3,c4,c5,c6),m0,m1,m2,m3,m4,m5,m6,m7)) (ops,(c0,c1,c2,c3,c4,c5,c6),m0,m1,m2,m3,m4,m5,m6,m7) false ops.length (fun i=>zGF c0 m4 ops (ops.getD i (0,0,0))) rfl ?_ ?_ ?_ ?_
    ·simp only [Int.lt_irrefl,if_false]
    ·intro i hi
     have i1:(i:Int)<ops.length:=by omega
     have i0:(0:Int)≤i:=by omega
     simp only [i1,i0,if_true,decide_true,Bool.and_self,zAG,Int.toNat_natCast]
     rw [zBP (0,0,0) hi]
     generalize ops.getD i (0,0,0)=x
     have z:=q246 (c0,c1,c2,c3,c4,c5,c6) (m0,m1,m2,m3,m4,m5,m6,m7) ops x hp hol
     rw [show ((x.1,x.2.1,x.2.2):InsP)=x from rfl,z]
     simp only [zAB,zAE]
     by_cases h:zGF c0 m4 ops x
     ·rw [if_pos h,wI (by omega) (by omega)];exact .inl ⟨h,rfl⟩
     ·rw [if_neg h];exact .inr ⟨h,rfl⟩
    ·intro hins
     have hins:=(zAg (P:=fun x=>zGF c0 m4 ops x) (0,0,0)).2 hins
     simp only
     refine zFV (fun i=>(ops,(i:Int),(c0,c1,c2,c3,c4,c5,c6),m0,m1,m2,m3,m4,m5,m6,m7)) (ops,(c0,c1,c2,c3,c4,c5,c6),m0,m1,m2,m3,m4,m5,m6,m7) false m6.length (fun i=>zDO c0 m5.length ops (m6.getD i (0,0,0,0))) rfl ?_ ?_ ?_ ?_
     ·simp only [Int.lt_irrefl,if_false]
     ·intro i hi
      have i1:(i:Int)<m6.length:=by omega
      have i0:(0:Int)≤i:=by omega
      simp only [i1,i0,if_true,decide_true,Bool.and_self,zAG,Int.toNat_natCast]
      rw [zBP (0,0,0,0) hi]
      generalize m6.getD i (0,0,0,0)=x
      have z:=q247 (c0,c1,c2,c3,c4,c5,c6) (m0,m1,m2,m3,m4,m5,m6,m7) ops x hp hol
      rw [show ((x.1,x.2.1,x.2.2.1,x.2.2.2):Trp)=x from rfl,z]
      simp only [zAB,zAE]
      by_cases h:zDO c0 m5.length ops x
      ·rw [if_pos h,wI (by omega) (by omega)];exact .inl ⟨h,rfl⟩
      ·rw [if_neg h];exact .inr ⟨h,rfl⟩
     ·intro htr
      have htr:=(zAg (P:=fun x=>zDO c0 m5.length ops x) (0,0,0,0)).2 htr
      have z:=q248 (c0,c1,c2,c3,c4,c5,c6) (m0,m1,m2,m3,m4,m5,m6,m7) ops hp hol b3 b4
      simp only
      rw [z,zAB]
      refine hgo _ ?_
      rw [hB,decide_eq_true_iff]
      exact ⟨fun h=>⟨rfl,by omega,h2,hins,htr,h⟩,fun h=>h.2.2.2.2.2⟩
     ·intro htr
      exact hgo false (by rw [hB];exact iff_of_false (by simp) fun h=>htr ((zAg (P:=fun x=>zDO c0 m5.length ops x) (0,0,0,0)).1 h.2.2.2.2.1))
    ·intro hins
     exact hgo false (by rw [hB];exact iff_of_false (by simp) fun h=>hins ((zAg (P:=fun x=>zGF c0 m4 ops x) (0,0,0)).1 h.2.2.2.1))
   ·rw [if_neg h2,zAH]
    exact hgo false (by rw [hB];exact iff_of_false (by simp) fun h=>h2 h.2.2.1)
theorem q173 (l:List InsP) (a:Int) (hl:l.length≤1048576):F173 (l,a)=some (opI l a):=by
 have e:F242240 (l,a)=some (opI l a,a):=by
  simp only [F242240,zAE]
  refine (zIP (fun i=>(l,(l.length:Int),(i:Int),a)) a l (fun x=>decide (x.1=a)) (fun i=>((i:Int),a)) rfl ?_ ?_).trans ?_
  ·simp only [Int.lt_irrefl,if_false]
  ·intro i hi
   have i1:(i:Int)<l.length:=by omega
   have i0:(0:Int)≤i:=by omega
   simp (discharger:=omega) only [i1,i0,if_true,decide_true,zAG,Int.toNat_natCast,zAL,wI,decide_eq_true_eq,F241,zAB,zAE]
   split <;> rfl
  ·unfold opI
   cases l.findIdx? (fun x=>decide (x.1=a)) <;> rfl
 simp only [F173,e,zAB]
theorem q171 (op:Int):F171 op=some (want op):=by
 simp only [F171,q89,zAB,zAE,zAJ,zAo,zAC,zAH]
 unfold want
 repeat' split
 all_goals first | rfl | (exfalso;omega)
theorem q174 (c:Cls) (l:List Knd) (hp:bndP c.1) (hok:zJT c.1) (hl:l.length≤1048576) (hk:∀ k∈l,0≤k.1∧k.1≤3):F174 (c,l)=some (decide (zBW c.1 l)):=by
 obtain ⟨c0,c1,c2,c3,c4,c5,c6⟩:=c
 simp only at hp hok
 simp only [F174,F244242,F244290]
 have hk':=(zAg (P:=fun k:Knd=>0≤k.1∧k.1≤3) (0,0)).1 hk
 have key:=any_r (f:=(fun (x:List Knd×Int×Int×Cls)=>cndO (decide (x.2.2.1<x.2.1))
    (grdO (decide (0≤x.2.2.1)) (atO x.1 (Int.toNat x.2.2.1) fun y=>zAA (F243 ((y.1,y.2),x.2.2.2.1,x.2.2.2.2.1,x.2.2.2.2.2.1,x.2.2.2.2.2.2.1,x.2.2.2.2.2.2.2.1,x.2.2.2.2.2.2.2.2.1,x.2.2.2.2.2.2.2.2.2)) fun z =>
    cndO z.1 (some (.inr (.inr (x.2.2.1,z.2)))) (some (.inl (x.1,x.2.1,IntKind.wrap .i64 (x.2.2.1+1),z.2)))))
    (some (.inr (.inl (x.2.2.2.1,x.2.2.2.2.1,x.2.2.2.2.2.1,x.2.2.2.2.2.2.1,x.2.2.2.2.2.2.2.1,x.2.2.2.2.2.2.2.2.1,x.2.2.2.2.2.2.2.2.2))))))
  (fun k=>(l,(l.length:Int),(k:Int),c0,c1,c2,c3,c4,c5,c6)) (c0,c1,c2,c3,c4,c5,c6) (fun k=>((k:Int),c0,c1,c2,c3,c4,c5,c6)) l.length (fun k=>¬ zIa c0 (l.getD k (0,0))) (x0:=(l,(l.length:Int),0,c0,c1,c2,c3,c4,c5,c6)) (k:=fun x=>some ((-1:Int),x)) rfl ?_ ?_
 ·rcases key with ⟨h1,h2⟩ | ⟨k,h1,h2,h3⟩
  ·rw [zDZ h2]
   exact sd (iff_of_true rfl ((zAg (0,0)).2 fun i hi=>Classical.not_not.1 (h1 i hi)))
  ·rw [zDZ h3]
   refine sd (iff_of_false ?_ fun h=>h2 ((zAg (0,0)).1 h k h1))
   simp
 ·simp only [Int.lt_irrefl,decide_false,zAK]
 ·intro k hkl
  have k1:(k:Int)<l.length:=by omega
  have k0:(0:Int)≤k:=by omega
  simp only [k1,k0,decide_true,zAJ,zAG,Int.toNat_natCast]
  rw [zBP (0,0) hkl]
  have hr:=hk' k hkl
  generalize l.getD k (0,0)=x at hr
  have hK:zIa c0 x↔((0≤x.1∧x.1≤3)∧(x.1=3→zBS c0 x.2)∧(x.1≠3→x.2=0)):=Iff.rfl
  have z162:F162 ((c0,c1,c2,c3,c4,c5,c6),x.2)=some (decide ((zAU c0 x.2).1=2)):=q162 (c0,c1,c2,c3,c4,c5,c6) x.2 hp
  have z:F243 ((x.1,x.2),c0,c1,c2,c3,c4,c5,c6)=some (decide (¬ zIa c0 x),c0,c1,c2,c3,c4,c5,c6):=by
   simp only [F243,z162,zAB,zAS,zAE]
   by_cases h1:x.1=3
   ·rw [if_pos h1]
    by_cases h2:(zAU c0 x.2).1=2
    ·rw [if_pos h2,if_pos h1,decide_eq_false fun h=>h (hK.2 ⟨hr,fun _=>hok.cls.2 h2,fun h=>absurd h1 h⟩)]
    ·rw [if_neg h2,decide_eq_true (p:=¬ zIa c0 x) fun h=>h2 ((hK.1 h).2.1 h1).1]
   ·rw [if_neg h1,if_neg h1]
    by_cases h2:x.2=0
    ·rw [decide_eq_true h2,decide_eq_false fun h=>h (hK.2 ⟨hr,fun h=>absurd h h1,fun _=>h2⟩)];rfl
    ·rw [decide_eq_false h2,decide_eq_true (p:=¬ zIa c0 x) fun h=>h2 ((hK.1 h).2.2 h1)];rfl
  refine (show ¬ zIa c0 x∧_=_∨_ from ?_)
  rw [z]
  simp only [zAB,zAE]
  rw [wI (by omega) (by omega)]
  by_cases e:¬ zIa c0 x
  ·rw [if_pos e];exact .inl ⟨e,rfl⟩
  ·rw [if_neg e];exact .inr ⟨e,rfl⟩
theorem q87 (c:Cls) (m:Mth) (hp:bndP c.1) (hok:zJT c.1) (hm:0≤m.1∧m.1≤255) (hb:bMth m) (h120:m.2.2.2.2.2.1.length≤120) (hfr:∀ f∈m.2.2.2.2.2.2.2,fFrm f) (hd:zAu c.1 m.2.2.1 Dsc):F87 (c,m)=some (decide (zCN c.1 m)):=by
 obtain ⟨c0,c1,c2,c3,c4,c5,c6⟩:=c
 obtain ⟨m0,m1,m2,m3,m4,m5,m6,m7⟩:=m
 obtain ⟨hm0,hm1⟩:=hm
 obtain ⟨b1,b2,b3,b4⟩:=hb
 simp only at hp hok hm0 hm1 b1 b2 b3 b4 h120 hfr hd
 have hlen:=zSg m5
 have hB:zCN c0 (m0,m1,m2,m3,m4,m5,m6,m7)↔((opsV m5).2=true∧m3≤8∧(takes c0 (m0,m1,m2,m3,m4,m5,m6,m7)≤m4∧m4≤8)∧(∀ x∈(opsV m5).1,zGF c0 m4 (opsV m5).1 x)∧(∀ t∈m6,zDO c0 m5.length (opsV m5).1 t)∧zQO c0 (m0,m1,m2,m3,m4,m5,m6,m7) (opsV m5).1):=Iff.rfl
 have z111:∀ i,F111 ((c0,c1,c2,c3,c4,c5,c6),i)=some (zAp c0 i):=fun i=>q111 (c0,c1,c2,c3,c4,c5,c6) i hp
 have z162:∀ i,F162 ((c0,c1,c2,c3,c4,c5,c6),i)=some (decide ((zAU c0 i).1=2)):=fun i=>q162 (c0,c1,c2,c3,c4,c5,c6) i hp
 have z124:∀ k,F124 (c0,k)=some (zAU c0 k):=fun k=>q124 c0 k hp.1
 have hdl:=zVr (txt c0 m2)
 have hT:takes c0 (m0,m1,m2,m3,m4,m5,m6,m7)=if has m0 1 then ((dsc (txt c0 m2)).1.length:Int) else (dsc (txt c0 m2)).1.length+1:=rfl
 simp only [F87,q31 _ h120,z111,zAs hd.1,n170 _ (zDB hp _),zAB,zAE,zAS,and1p hm0 hm1]
 rw [show (if ¬ has m0 1 then some (Sum.inl ((opsV m5).1,(opsV m5).2,IntKind.wrap .i64 (((dsc (txt c0 m2)).1.length:Int)+1),(c0,c1,c2,c3,c4,c5,c6),m0,m1,m2,m3,m4,m5,m6,m7)) else some (Sum.inl ((opsV m5).1,(opsV m5).2,((dsc (txt c0 m2)).1.length:Int),(c0,c1,c2,c3,c4,c5,c6),m0,m1,m2,m3,m4,m5,m6,m7)):Option ((List InsP×Bool×Int×Cls×Mth) ⊕ Bool))=some (Sum.inl ((opsV m5).1,(opsV m5).2,takes c0 (m0,m1,m2,m3,m4,m5,m6,m7),(c0,c1,c2,c3,c4,c5,c6),m0,m1,m2,m3,m4,m5,m6,m7)) by
  rw [hT]
  by_cases h:has m0 1
  ·rw [if_neg (by simp [h]),if_pos h]
  ·rw [if_pos h,if_neg h,wI (by omega) (by omega)],zAC]
 generalize takes c0 (m0,m1,m2,m3,m4,m5,m6,m7)=need at hB
 generalize hv:opsV m5=v at hlen hB
 obtain ⟨ops,ok⟩:=v
 simp only at hlen hB ⊢
 have hol:ops.length≤1048576:=by omega
 cases ok with
 | false =>
   rw [zAK,zAH]
   exact sd (by rw [hB];exact iff_of_false (by simp) fun h=>by cases h.1)
 | true =>
   rw [zAJ]
   by_cases h1:8<m3
   ·rw [if_pos h1,zAH]
    exact sd (by rw [hB];exact iff_of_false (by simp) fun h=>by omega)
   rw [if_neg h1]
   simp only [q89,zAB,zAE]
   by_cases h2:need≤m4∧m4≤8
   ·rw [if_pos h2,zAC]
    simp only
    refine zFV (fun i=>((ops.length:Int),(i:Int),(c0,c1,c2,c3,c4,c5,c6),(m0,m1,m2,m3,m4,m5,m6,m7),ops)) (ops,(c0,c1,c2,c3,c4,c5,c6),m0,m1,m2,m3,m4,m5,m6,m7) false ops.length (fun i=>zGF c0 m4 ops (ops.getD i (0,0,0))) rfl ?_ ?_ ?_ ?_
    ·simp only [Int.lt_irrefl,if_false]
    ·intro i hi
     have i1:(i:Int)<ops.length:=by omega
     have i0:(0:Int)≤i:=by omega
     simp only [i1,i0,if_true,decide_true,Bool.and_self,zAG,Int.toNat_natCast]
     rw [zBP (0,0,0) hi]
     generalize ops.getD i (0,0,0)=x
     obtain ⟨x0,x1,x2⟩:=x
     have hI:zGF c0 m4 ops (x0,x1,x2)↔((3≤x1∧x1≤6→x2<m4)∧(14≤x1∧x1≤18→0≤opI ops x2)∧(want x1≠0→(zAU c0 x2).1=want x1)):=Iff.rfl
     rw [hI]
     simp only [q171,F172,q89,q173 _ _ hol,z124,zAB,zAE,zAS]
     have hfin:∀ F:Option ((Int×Int×Cls×Mth×List InsP) ⊕ ((Int×Int×Cls×Mth×List InsP) ⊕ ((List InsP×Cls×Mth) ⊕ Bool)))→Option ((Int×Int×Cls×Mth×List InsP) ⊕ ((List InsP×Cls×Mth) ⊕ Bool)),
       F (some (.inr (.inr (.inr false))))=some (.inr (.inr false))→F (some (.inl ((ops.length:Int),(i:Int),(c0,c1,c2,c3,c4,c5,c6),(m0,m1,m2,m3,m4,m5,m6,m7),ops)))=some (.inl ((ops.length:Int),((i+1:Nat):Int),(c0,c1,c2,c3,c4,c5,c6),(m0,m1,m2,m3,m4,m5,m6,m7),ops)) →
       (3≤x1∧x1≤6→x2<m4)→(14≤x1∧x1≤18→0≤opI ops x2) →
       (((3≤x1∧x1≤6→x2<m4)∧(14≤x1∧x1≤18→0≤opI ops x2)∧(want x1≠0→(zAU c0 x2).1=want x1))∧F (if want x1=0 then some (.inl ((ops.length:Int),(i:Int),(c0,c1,c2,c3,c4,c5,c6),(m0,m1,m2,m3,m4,m5,m6,m7),ops)) else if (zAU c0 x2).1=want x1 then some (.inl ((ops.length:Int),(i:Int),(c0,c1,c2,c3,c4,c5,c6),(m0,m1,m2,m3,m4,m5,m6,m7),ops)) else some (.inr (.inr (.inr false))))=some (.inl ((ops.length:Int),((i+1:Nat):Int),(c0,c1,c2,c3,c4,c5,c6),(m0,m1,m2,m3,m4,m5,m6,m7),ops))) ∨
       (¬ ((3≤x1∧x1≤6→x2<m4)∧(14≤x1∧x1≤18→0≤opI ops x2)∧(want x1≠0→(zAU c0 x2).1=want x1))∧F (if want x1=0 then some (.inl ((ops.length:Int),(i:Int),(c0,c1,c2,c3,c4,c5,c6),(m0,m1,m2,m3,m4,m5,m6,m7),ops)) else if (zAU c0 x2).1=want x1 then some (.inl ((ops.length:Int),(i:Int),(c0,c1,c2,c3,c4,c5,c6),(m0,m1,m2,m3,m4,m5,m6,m7),ops)) else some (.inr (.inr (.inr false))))=some (.inr (.inr false))):=by
      intro F f1 f2 k1 k2
      by_cases h3:want x1=0
      ·rw [if_pos h3];exact .inl ⟨⟨k1,k2,fun h=>absurd h3 h⟩,f2⟩
      ·rw [if_neg h3]
       by_cases h4:(zAU c0 x2).1=want x1
       ·rw [if_pos h4];exact .inl ⟨⟨k1,k2,fun _=>h4⟩,f2⟩
       ·rw [if_neg h4];exact .inr ⟨fun h=>h4 (h.2.2 h3),f1⟩
     have f2:bindE (some (.inl ((ops.length:Int),(i:Int),(c0,c1,c2,c3,c4,c5,c6),(m0,m1,m2,m3,m4,m5,m6,m7),ops)):Option ((Int×Int×Cls×Mth×List InsP) ⊕ ((Int×Int×Cls×Mth×List InsP) ⊕ ((List InsP×Cls×Mth) ⊕ Bool)))) (fun x=>some (.inl (x.1,IntKind.wrap .i64 (x.2.1+1),x.2.2.1,x.2.2.2.1,x.2.2.2.2)))=some (.inl ((ops.length:Int),((i+1:Nat):Int),(c0,c1,c2,c3,c4,c5,c6),(m0,m1,m2,m3,m4,m5,m6,m7),ops)):=by
      simp only [zAC]
      rw [wI (by omega) (by omega)];rfl
     by_cases k1:3≤x1∧x1≤6
     ·rw [if_pos k1]
      by_cases k2:m4≤x2
      ·rw [if_pos k2]
       exact .inr ⟨fun h=>by have:=h.1 k1;omega,rfl⟩
      ·rw [if_neg k2]
       have k3:¬ (14≤x1∧x1≤18):=by omega
       rw [if_neg k3]
       exact hfin (bindE · _) rfl f2 (fun _=>by omega) fun h=>absurd h k3
     ·rw [if_neg k1]
      by_cases k3:14≤x1∧x1≤18
      ·rw [if_pos k3]
       by_cases k4:opI ops x2<0
       ·rw [if_pos k4]
        exact .inr ⟨fun h=>by have:=h.2.1 k3;omega,rfl⟩
       ·rw [if_neg k4]
        exact hfin (bindE · _) rfl f2 (fun h=>absurd h k1) fun _=>by omega
      ·rw [if_neg k3]
       exact hfin (bindE · _) rfl f2 (fun h=>absurd h k1) fun h=>absurd h k3
    ·intro hins
     have hins:=(zAg (P:=fun x=>zGF c0 m4 ops x) (0,0,0)).2 hins
     simp only
     refine zFV (fun i=>(ops,m6,(m6.length:Int),(i:Int),(c0,c1,c2,c3,c4,c5,c6),m0,m1,m2,m3,m4,m5,m6,m7)) (ops,(c0,c1,c2,c3,c4,c5,c6),m0,m1,m2,m3,m4,m5,m6,m7) false m6.length (fun i=>zDO c0 m5.length ops (m6.getD i (0,0,0,0))) rfl ?_ ?_ ?_ ?_
     ·simp only [Int.lt_irrefl,if_false]
     ·intro i hi
      have i1:(i:Int)<m6.length:=by omega
      have i0:(0:Int)≤i:=by omega
      simp only [i1,i0,if_true,decide_true,Bool.and_self,zAG,Int.toNat_natCast]
      rw [zBP (0,0,0,0) hi]
      generalize m6.getD i (0,0,0,0)=x
      obtain ⟨t0,t1,t2,t3⟩:=x
      have hI:zDO c0 m5.length ops (t0,t1,t2,t3)↔(t0<t1∧0≤opI ops t0∧(t1=(m5.length:Int)∨0≤opI ops t1)∧0≤opI ops t2∧(t3=0∨zBS c0 t3)):=Iff.rfl
      rw [hI]
      simp only [q173 _ _ hol,z162,zAB,zAE,zAS]
      have f2:bindE (some (.inl (ops,m6,(m6.length:Int),(i:Int),(c0,c1,c2,c3,c4,c5,c6),m0,m1,m2,m3,m4,m5,m6,m7)):Option ((List InsP×List Trp×Int×Int×Cls×Mth) ⊕ ((List InsP×List Trp×Int×Int×Cls×Mth) ⊕ ((List InsP×Cls×Mth) ⊕ Bool)))) (fun x=>some (.inl (x.1,x.2.1,x.2.2.1,IntKind.wrap .i64 (x.2.2.2.1+1),x.2.2.2.2.1,x.2.2.2.2.2)))=some (.inl (ops,m6,(m6.length:Int),((i+1:Nat):Int),(c0,c1,c2,c3,c4,c5,c6),m0,m1,m2,m3,m4,m5,m6,m7)):=by
       simp only [zAC]
       rw [wI (by omega) (by omega)];rfl
      by_cases k1:t1≤t0
      ·rw [if_pos k1];exact .inr ⟨fun h=>by omega,rfl⟩
      rw [if_neg k1]
      by_cases k2:opI ops t0<0
      ·rw [if_pos k2];exact .inr ⟨fun h=>by omega,rfl⟩
      rw [if_neg k2]
      by_cases k3:opI ops t2<0
      ·rw [if_pos k3];exact .inr ⟨fun h=>by omega,rfl⟩
      rw [if_neg k3]
      by_cases k4:opI ops t1<0
      ·rw [if_pos k4]
       by_cases k5:t1=(m5.length:Int)
       ·rw [if_pos k5]
        by_cases k6:t3=0
        ·rw [if_pos k6];exact .inl ⟨⟨by omega,by omega,.inl k5,by omega,.inl k6⟩,f2⟩
        ·rw [if_neg k6]
         by_cases k7:(zAU c0 t3).1=2
         ·rw [if_pos k7];exact .inl ⟨⟨by omega,by omega,.inl k5,by omega,.inr (hok.cls.2 k7)⟩,f2⟩
         ·rw [if_neg k7];exact .inr ⟨fun h=>k7 (h.2.2.2.2.resolve_left k6).1,rfl⟩
       ·rw [if_neg k5];exact .inr ⟨fun h=>h.2.2.1.elim k5 fun h=>by omega,rfl⟩
      ·rw [if_neg k4]
       by_cases k6:t3=0
       ·rw [if_pos k6];exact .inl ⟨⟨by omega,by omega,.inr (by omega),by omega,.inl k6⟩,f2⟩
       ·rw [if_neg k6]
        by_cases k7:(zAU c0 t3).1=2
        ·rw [if_pos k7];exact .inl ⟨⟨by omega,by omega,.inr (by omega),by omega,.inr (hok.cls.2 k7)⟩,f2⟩
        ·rw [if_neg k7];exact .inr ⟨fun h=>k7 (h.2.2.2.2.resolve_left k6).1,rfl⟩
     ·intro htr
      have htr:=(zAg (P:=fun x=>zDO c0 m5.length ops x) (0,0,0,0)).2 htr
      simp only
      refine zFV (fun i=>(ops,(if i=0 then (-1:Int) else (m7.getD (i - 1) (0,[],[])).1),m7,(m7.length:Int),(i:Int),(c0,c1,c2,c3,c4,c5,c6),m0,m1,m2,m3,m4,m5,m6,m7)) () false m7.length (zWF c0 (m0,m1,m2,m3,m4,m5,m6,m7) ops) rfl ?_ ?_ ?_ ?_
      ·simp only [Int.lt_irrefl,if_false]
      ·intro i hi
       have i1:(i:Int)<m7.length:=by omega
       have i0:(0:Int)≤i:=by omega
       have hF:zWF c0 (m0,m1,m2,m3,m4,m5,m6,m7) ops i↔(0≤opI ops (m7.getD i (0,[],[])).1∧(0<i→(m7.getD (i - 1) (0,[],[])).1<(m7.getD i (0,[],[])).1)∧((m7.getD i (0,[],[])).2.1.length:Int)=m4∧((m7.getD i (0,[],[])).2.2.length:Int)≤m3∧zBW c0 (m7.getD i (0,[],[])).2.1∧zBW c0 (m7.getD i (0,[],[])).2.2):=Iff.rfl
       have hff:fFrm (m7.getD i (0,[],[])):=(zAg (P:=fFrm) (0,[],[])).1 hfr i hi
       have hnx:∀ y:Int,y=(m7.getD i (0,[],[])).1→y=(if i+1=0 then (-1:Int) else (m7.getD (i+1 - 1) (0,[],[])).1):=by
        intro y hy;rw [if_neg (by omega),Nat.add_sub_cancel];exact hy
       simp only [i1,i0,if_true,decide_true,zAG,Int.toNat_natCast]
       rw [zBP (0,[],[]) hi]
       rw [hF]
       generalize m7.getD i (0,[],[])=x at hff hnx
       have hpr:(x.1≤(if i=0 then (-1:Int) else (m7.getD (i - 1) (0,[],[])).1))↔¬ (0<i→(m7.getD (i - 1) (0,[],[])).1<x.1):=by
        have:=hff.1.1
        by_cases h0:i=0
        ·rw [if_pos h0]
         exact iff_of_false (by omega) fun h=>h fun h'=>absurd h' (by omega)
        ·rw [if_neg h0]
         exact ⟨fun h h'=>by have:=h' (by omega);omega,fun h=>Classical.byContradiction fun h'=>h fun _=>by omega⟩
       generalize (if i=0 then (-1:Int) else (m7.getD (i - 1) (0,[],[])).1)=before at hpr
       have z1:F174 ((c0,c1,c2,c3,c4,c5,c6),x.2.1)=some (decide (zBW c0 x.2.1)):=q174 (c0,c1,c2,c3,c4,c5,c6) x.2.1 hp hok (by have:=hff.2.1.1;omega) fun k hk=>(hff.2.1.2 k hk).1
       have z2:F174 ((c0,c1,c2,c3,c4,c5,c6),x.2.2)=some (decide (zBW c0 x.2.2)):=q174 (c0,c1,c2,c3,c4,c5,c6) x.2.2 hp hok (by have:=hff.2.2.1;omega) fun k hk=>(hff.2.2.2 k hk).1
       simp only [q173 _ _ hol,z1,z2,zAB,zAS,zAE]
       by_cases k1:opI ops x.1<0
       ·rw [if_pos k1];exact .inr ⟨fun h=>by omega,rfl⟩
       rw [if_neg k1]
       by_cases k2:x.1≤before
       ·rw [if_pos k2];exact .inr ⟨fun h=>(hpr.1 k2) h.2.1,rfl⟩
       rw [if_neg k2]
       have k2':=Classical.not_not.1 fun h=>k2 (hpr.2 h)
       by_cases k3:(x.2.1.length:Int)=m4
       ·rw [if_pos k3]
        by_cases k4:m3<(x.2.2.length:Int)
        ·rw [if_pos k4];exact .inr ⟨fun h=>by omega,rfl⟩
        rw [if_neg k4]
        by_cases k5:zBW c0 x.2.1
        ·rw [if_pos k5]
         by_cases k6:zBW c0 x.2.2
         ·rw [if_pos k6]
          refine .inl ⟨⟨by omega,k2',k3,by omega,k5,k6⟩,?_⟩
          simp only [zAC]
          rw [wI (by omega) (by omega),← hnx x.1 rfl];rfl
         ·rw [if_neg k6];exact .inr ⟨fun h=>k6 h.2.2.2.2.2,rfl⟩
        ·rw [if_neg k5];exact .inr ⟨fun h=>k5 h.2.2.2.2.1,rfl⟩
       ·rw [if_neg k3];exact .inr ⟨fun h=>k3 h.2.2.1,rfl⟩
      ·intro h
       exact sd (by rw [hB];exact iff_of_true rfl ⟨rfl,by omega,h2,hins,htr,h⟩)
      ·intro h
       exact sd (by rw [hB];exact iff_of_false (by simp) fun h'=>h h'.2.2.2.2.2)
     ·intro htr
      exact sd (by rw [hB];exact iff_of_false (by simp) fun h=>htr ((zAg (P:=fun x=>zDO c0 m5.length ops x) (0,0,0,0)).1 h.2.2.2.2.1))
    ·intro hins
     exact sd (by rw [hB];exact iff_of_false (by simp) fun h=>hins ((zAg (P:=fun x=>zGF c0 m4 ops x) (0,0,0)).1 h.2.2.2.1))
   ·rw [if_neg h2,zAH]
    exact sd (by rw [hB];exact iff_of_false (by simp) fun h=>h2 h.2.2.1)
end Go.Proofs.YtdpapeledldifaaGreat
end
section
namespace Go.Stow
theorem chkV_2 {c:ClsP} (h:¬ zBl c.1 c.1.length 0=0):chkV c=2:=by unfold chkV;rw [if_pos h]
theorem chkV_3 {c:ClsP} (h1:zBl c.1 c.1.length 0=0) (h2:¬ zBx c):chkV c=3:=by
 unfold chkV;rw [if_neg (show ¬ zBl c.1 c.1.length 0≠0 from fun h=>h h1),if_pos h2]
theorem chkV_4 {c:ClsP} (h1:zBl c.1 c.1.length 0=0) (h2:zBx c) (h3:¬ zDq c):chkV c=4:=by
 unfold chkV;rw [if_neg (show ¬ zBl c.1 c.1.length 0≠0 from fun h=>h h1),if_neg (show ¬ ¬ zBx c from fun h=>h h2),if_pos h3]
theorem chkV_5 {c:ClsP} (h1:zBl c.1 c.1.length 0=0) (h2:zBx c) (h3:zDq c) (h4:¬ zEU c):chkV c=5:=by
 unfold chkV;rw [if_neg (show ¬ zBl c.1 c.1.length 0≠0 from fun h=>h h1),if_neg (show ¬ ¬ zBx c from fun h=>h h2),if_neg (show ¬ ¬ zDq c from fun h=>h h3),if_pos h4]
theorem chkV_6 {c:ClsP} (h1:zBl c.1 c.1.length 0=0) (h2:zBx c) (h3:zDq c) (h4:zEU c) (h5:¬ zGG c):chkV c=6:=by
 unfold chkV;rw [if_neg (show ¬ zBl c.1 c.1.length 0≠0 from fun h=>h h1),if_neg (show ¬ ¬ zBx c from fun h=>h h2),if_neg (show ¬ ¬ zDq c from fun h=>h h3),if_neg (show ¬ ¬ zEU c from fun h=>h h4),if_pos h5]
theorem chkV_0 {c:ClsP} (h1:zBl c.1 c.1.length 0=0) (h2:zBx c) (h3:zDq c) (h4:zEU c) (h5:zGG c):chkV c=0:=by
 unfold chkV;rw [if_neg (show ¬ zBl c.1 c.1.length 0≠0 from fun h=>h h1),if_neg (show ¬ ¬ zBx c from fun h=>h h2),if_neg (show ¬ ¬ zDq c from fun h=>h h3),if_neg (show ¬ ¬ zEU c from fun h=>h h4),if_neg (show ¬ ¬ zGG c from fun h=>h h5)]
end Go.Stow
namespace Go.Proofs.YtdpapeledldifaaGreat
open Go Go.AM Go.TM Go.Stow
theorem zRa {c:Cls} (h:fCls c):bndP c.1:=by
 obtain ⟨⟨f1,_⟩,h1,_⟩:=h
 exact ⟨by omega,fun x hx=>by have:=(h1 x hx).2.1;omega⟩
theorem chk88 (c:Cls) (h:fCls c):F88 c=some (chkV c):=by
 have hp:=zRa h
 have hb:=fit_b h
 obtain ⟨⟨f1,f2,f3,f4⟩,_,hfl,_,_,_,_,hms⟩:=h
 have hmf:∀ m∈c.2.2.2.2.2.2,0≤m.1∧m.1≤255:=fun m hm=>(hms m hm).1
 have z15:=q15 c.1 hp f1
 have z175:=q175 c hp hfl (by omega)
 have z176:=q176 c hp hfl (by omega)
 have z177:=q177 c hp hfl (by omega) hmf
 have hbm:=hb.2.2.2.2
 obtain ⟨c0,c1,c2,c3,c4,c5,c6⟩:=c
 simp only at f1 f2 f3 f4 hfl hmf hp z15 hbm
 simp only [F88,z15,z175,z176,z177,zAB,zAS,zAE]
 by_cases h1:zBl c0 c0.length 0=0
 ·rw [if_pos h1]
  by_cases h2:zBx (c0,c1,c2,c3,c4,c5,c6)
  ·rw [if_pos h2]
   by_cases h3:zDq (c0,c1,c2,c3,c4,c5,c6)
   ·rw [if_pos h3]
    by_cases h4:zEU (c0,c1,c2,c3,c4,c5,c6)
    ·rw [if_pos h4]
     refine zFV (fun i=>((i:Int),c0,c1,c2,c3,c4,c5,c6)) () 6 c6.length (fun i=>¬ has (c6.getD i mth0).1 8→zCN c0 (c6.getD i mth0)) rfl ?_ ?_ ?_ ?_
     ·simp only [Int.lt_irrefl,if_false]
     ·intro i hi
      have i1:(i:Int)<c6.length:=by omega
      have i0:(0:Int)≤i:=by omega
      simp only [i1,i0,if_true,decide_true,zAG,Int.toNat_natCast]
      rw [zBP mth0 hi]
      have hm1:=(zAg (P:=fun m:Mth=>0≤m.1∧m.1≤255) mth0).1 hmf i hi
      have hm2:=(zAg (P:=bMth) mth0).1 hbm i hi
      generalize c6.getD i mth0=x at hm1 hm2
      have z:F178 ((c0,c1,c2,c3,c4,c5,c6),x.1,x.2.1,x.2.2.1,x.2.2.2.1,x.2.2.2.2.1,x.2.2.2.2.2.1,x.2.2.2.2.2.2.1,x.2.2.2.2.2.2.2)=some (decide (¬ has x.1 8→zCN c0 x)):=q178 (c0,c1,c2,c3,c4,c5,c6) x hp hm1 hm2
      rw [z]
      simp only [zAB,zAE]
      by_cases e:¬ has x.1 8→zCN c0 x
      ·rw [if_pos e,wI (by omega) (by omega)];exact .inl ⟨e,rfl⟩
      ·rw [if_neg e];exact .inr ⟨e,rfl⟩
     ·intro hall
      rw [chkV_0 h1 h2 h3 h4 ((zAg (P:=fun m:Mth=>¬ has m.1 8→zCN c0 m) mth0).2 hall)]
     ·intro hall
      rw [chkV_6 h1 h2 h3 h4 fun h:zGG _=>hall ((zAg (P:=fun m:Mth=>¬ has m.1 8→zCN c0 m) mth0).1 h)]
    ·rw [if_neg h4,chkV_5 h1 h2 h3 h4]
   ·rw [if_neg h3,chkV_4 h1 h2 h3]
  ·rw [if_neg h2,chkV_3 h1 h2]
 ·rw [if_neg h1,chkV_2 h1]
theorem zHv {c:Cls} (h:put c≠[]):fCls c:=by
 refine Classical.byContradiction fun hn=>h (zES fun hh=>hn hh.1)
theorem chk30 (c:Cls) (h:bCls c):F30 c=some (if put c=[] then 1 else chkV c):=by
 have z:=put22 c h
 have z88:=fun hp:put c≠[]=>chk88 c (zHv hp)
 obtain ⟨c0,c1,c2,c3,c4,c5,c6⟩:=c
 simp only [F30,z,zAB,zAE]
 by_cases hp:put (c0,c1,c2,c3,c4,c5,c6)=[]
 ·rw [if_pos hp,if_pos hp]
 ·rw [if_neg hp,if_neg hp,z88 hp,zAB]
theorem chk29 (c:Cls) (h:bCls c):F29 c=some (if put c=[] then 1 else chkV c):=by
 have z:=put20 c h
 by_cases hpu:put c=[]
 ·obtain ⟨c0,c1,c2,c3,c4,c5,c6⟩:=c
  simp only [F29,z,zAB,zAE]
  rw [if_pos hpu,if_pos hpu]
 have hf:=zHv hpu
 have hp:=zRa hf
 have hb:=h
 obtain ⟨⟨f1,f2,f3,f4⟩,_,hfl,_,_,_,_,hms⟩:=hf
 have hmf:∀ m∈c.2.2.2.2.2.2,0≤m.1∧m.1≤255:=fun m hm=>(hms m hm).1
 have z14:=q14 c.1 hp f1
 have z83:=fun hok=>q83 c hp hfl (by omega) hok
 have z84:=fun i hi=>q84 c i hp hfl (by omega) hi
 have z85:=fun i hi=>q85 c i hp hfl (by omega) hmf hi
 have hfi:=flds_iff c
 have hmi:=mths_iff c
 have hbm:=hb.2.2.2.2
 obtain ⟨c0,c1,c2,c3,c4,c5,c6⟩:=c
 simp only at f1 f2 f3 f4 hfl hmf hp z14 hbm z84 z85 hfi hmi hms z83
 simp only [F29,z,z14,zAB,zAS,zAE]
 rw [if_neg hpu,if_neg hpu]
 by_cases h1:zBl c0 c0.length 0=0
 ·rw [if_pos h1]
  have hok:=pool_ok.1 h1
  rw [z83 hok,zAB,zAE]
  by_cases h2:zBx (c0,c1,c2,c3,c4,c5,c6)
  ·rw [if_pos h2]
   refine zFV (fun i=>((c5.length:Int),(i:Int),c0,c1,c2,c3,c4,c5,c6)) (c0,c1,c2,c3,c4,c5,c6) 4 c5.length (zJV (c0,c1,c2,c3,c4,c5,c6)) rfl ?_ ?_ ?_ ?_
   ·simp only [Int.lt_irrefl,if_false]
   ·intro i hi
    have i1:(i:Int)<c5.length:=by omega
    simp only [i1,if_true,z84 i hi,zAB,zAE]
    by_cases e:zJV (c0,c1,c2,c3,c4,c5,c6) i
    ·rw [if_pos e,wI (by omega) (by omega)];exact .inl ⟨e,rfl⟩
    ·rw [if_neg e];exact .inr ⟨e,rfl⟩
   ·intro hall0
    simp only
    refine zFV (fun i=>((c6.length:Int),(i:Int),c0,c1,c2,c3,c4,c5,c6)) (c0,c1,c2,c3,c4,c5,c6) 5 c6.length (zJU (c0,c1,c2,c3,c4,c5,c6)) rfl ?_ ?_ ?_ ?_
    ·simp only [Int.lt_irrefl,if_false]
    ·intro i hi
     have i1:(i:Int)<c6.length:=by omega
     simp only [i1,if_true,z85 i hi,zAB,zAE]
     by_cases e:zJU (c0,c1,c2,c3,c4,c5,c6) i
     ·rw [if_pos e,wI (by omega) (by omega)];exact .inl ⟨e,rfl⟩
     ·rw [if_neg e];exact .inr ⟨e,rfl⟩
    ·intro hall2
     simp only
     refine zFV (fun i=>(c6,(c6.length:Int),(i:Int),c0,c1,c2,c3,c4,c5,c6)) () 6 c6.length (fun i=>¬ has (c6.getD i mth0).1 8→zCN c0 (c6.getD i mth0)) rfl ?_ ?_ ?_ ?_
     ·simp only [Int.lt_irrefl,if_false]
     ·intro i hi
      have i1:(i:Int)<c6.length:=by omega
      have i0:(0:Int)≤i:=by omega
      simp only [i1,i0,if_true,decide_true,zAG,Int.toNat_natCast]
      rw [zBP mth0 hi]
      have hm1:=(zAg (P:=fun m:Mth=>0≤m.1∧m.1≤255) mth0).1 hmf i hi
      have hm2:=(zAg (P:=bMth) mth0).1 hbm i hi
      have hm3:=(zAg (P:=fMth) mth0).1 hms i hi
      have hm4:zAu c0 (c6.getD i mth0).2.2.1 Dsc:=(hall2 i hi).2.1
      generalize c6.getD i mth0=x at hm1 hm2 hm3 hm4
      have z87:F87 ((c0,c1,c2,c3,c4,c5,c6),x.1,x.2.1,x.2.2.1,x.2.2.2.1,x.2.2.2.2.1,x.2.2.2.2.2.1,x.2.2.2.2.2.2.1,x.2.2.2.2.2.2.2)=some (decide (zCN c0 x)):=q87 (c0,c1,c2,c3,c4,c5,c6) x hp hok hm1 hm2 hm3.2.2.2.2.2.1 hm3.2.2.2.2.2.2.2.2 hm4
      rw [q86 _ hm1.1 hm1.2,zAB,zAE]
      by_cases e1:has x.1 8
      ·rw [if_pos e1]
       simp only [zAC]
       rw [wI (by omega) (by omega)];exact .inl ⟨fun h=>absurd e1 h,rfl⟩
      ·rw [if_neg e1,z87,zAB,zAE]
       by_cases e:zCN c0 x
       ·rw [if_pos e]
        simp only [zAC]
        rw [wI (by omega) (by omega)];exact .inl ⟨fun _=>e,rfl⟩
       ·rw [if_neg e];exact .inr ⟨fun h=>e (h e1),rfl⟩
     ·intro hall
      rw [chkV_0 h1 h2 (hfi.1 hall0) (hmi.1 hall2) ((zAg (P:=fun m:Mth=>¬ has m.1 8→zCN c0 m) mth0).2 hall)]
     ·intro hall
      rw [chkV_6 h1 h2 (hfi.1 hall0) (hmi.1 hall2) fun h:zGG _=>hall ((zAg (P:=fun m:Mth=>¬ has m.1 8→zCN c0 m) mth0).1 h)]
    ·intro hall2
     rw [chkV_5 h1 h2 (hfi.1 hall0) fun h=>hall2 (hmi.2 h)]
   ·intro hall
    rw [chkV_4 h1 h2 fun h=>hall (hfi.2 h)]
  ·rw [if_neg h2,chkV_3 h1 h2]
 ·rw [if_neg h1,chkV_2 h1]
end Go.Proofs.YtdpapeledldifaaGreat
end
section
namespace Go.Proofs.YtdpapeledldifaaGreat
open Go Go.AM Go.TM Go.Stow
set_option maxRecDepth 10000
theorem Bu.cls {K:Nat} {p:List Cst} {f n s:Int} {fa:List Int} {fi:List (Int×Int×Int)} {ms:List Mth} {bad:Bool} (h:Bu K (p,f,n,s,fa,fi,ms,bad)) (hK:K≤1000000):bCls (p,f,n,s,fa,fi,ms):=by
 obtain ⟨⟨h1,h2⟩,h3,h4,h5,h6⟩:=h
 simp only at h1 h2 h3 h4 h5 h6
 refine ⟨⟨by simp only;omega,fun x hx=>?_⟩,by simp only;omega,by simp only;omega,by simp only;omega,fun m hm=>?_⟩
 ·have:=h2 x hx
  unfold bCst;omega
 ·obtain ⟨k1,k2,k3,k4⟩:=h6 m hm
  refine ⟨by omega,by omega,by omega,fun f hf=>?_⟩
  have:=k4 f hf
  exact ⟨by unfold zGX;omega,by unfold zGX;omega⟩
theorem t218 {s:List UInt8}:Tot (F218 s) fun y=>y.1=true→put y.2≠[]:=by
 unfold F218
 refine Tot.bindE (fun z=>z=(s,[],0,0,0,[],[],[])∧1≤s.length∧s.length≤2500) ?_ ?_
 ·refine Tot.cnd (fun _=>Tot.ret (by simp)) fun h=>Tot.cnd (fun _=>Tot.ret (by simp)) fun h1=>?_
  simp only [decide_eq_false_iff_not] at h h1
  have hw:IntKind.wrap .i64 ((s.length:Int) - 1)=(s.length:Int) - 1:=wrapI (by omega) (by omega)
  simp only [hw]
  exact Tot.grd (by simp;omega) (Tot.at (by omega) fun x _=>Tot.cnd (fun _=>Tot.ret (by simp)) fun _=>Tot.ret ⟨rfl,by omega,by omega⟩)
 rintro _ ⟨rfl,h1,h2⟩
 refine Tot.bind (t278 (by omega) (by omega)) ?_
 rintro y ⟨hy1,hy2,-,hy3⟩
 have hw:IntKind.wrap .i64 ((y.length:Int) - 1)=(y.length:Int) - 1:=wrapI (by omega) (by omega)
 refine Tot.bindE (fun z=>∃ b,z=(([],0,0,0,[],[],[]),b)∧Bu 200000 b)
  (Tot.loop (fun z=>∃ i b,z=(y,i,([],0,0,0,[],[],[]),b)∧0≤i∧i≤(y.length:Int)∧Bu (60*i.toNat) b) (fun z=>y.length - z.2.1.toNat) ?_ ⟨0,_,rfl,by simp,by simp,⟨by simp,by simp⟩,by simp,by simp,by simp,by simp⟩) ?_
 ·rintro _ ⟨i,⟨p,f,n,s',fa,fi,ms,bad⟩,rfl,i0,i1,hb⟩
  refine Tot.bindE (fun z=>z=(y,i,([],0,0,0,[],[],[]),p,f,n,s',fa,fi,ms,bad)∧i<(y.length:Int)) ?_ ?_
  ·refine Tot.cnd (fun h=>Tot.cnd (fun _=>?_) fun _=>Tot.ret ⟨_,rfl,hb.mono (by omega)⟩) fun _=>Tot.ret ⟨_,rfl,hb.mono (by omega)⟩
   simp only [hw,decide_eq_true_eq] at h
   exact Tot.ret ⟨rfl,by omega⟩
  rintro _ ⟨rfl,hi⟩
  obtain ⟨x,ex⟩:∃ x,y[i.toNat]? = some x:=⟨y[i.toNat],List.getElem?_eq_getElem (by omega)⟩
  have hx:=hy3 x (List.mem_of_getElem? ex)
  refine Tot.grd (by simp;omega) (Tot.at' ex (Tot.bind (t279 (by omega) hb (by omega)) ?_))
  rintro ⟨p',f',n',s1,fa',fi',ms',bad'⟩ hb'
  have hw':IntKind.wrap .i64 (i+1)=i+1:=wrapI (by omega) (by omega)
  show Tot (some (Sum.inl (y,IntKind.wrap .i64 (i+1),(([],0,0,0,[],[],[]):Cls),p',f',n',s1,fa',fi',ms',bad'))) _
  rw [hw']
  exact Tot.ret ⟨⟨_,_,rfl,by omega,by omega,hb'.mono (by omega)⟩,by show y.length - (i+1).toNat<y.length - i.toNat;omega⟩
 rintro _ ⟨⟨p,f,n,s',fa,fi,ms,bad⟩,rfl,hb⟩
 have hc:=hb.cls (by omega)
 refine Tot.bindE (fun z=>z=(([],0,0,0,[],[],[]),p,f,n,s',fa,fi,ms,bad)∧put (p,f,n,s',fa,fi,ms)≠[]) ?_ ?_
 ·refine Tot.cnd (fun _=>Tot.ret (by simp)) fun _=>?_
  rw [put22 _ hc,zAB]
  refine Tot.cnd (fun _=>Tot.ret (by simp)) fun h=>?_
  simp only [decide_eq_false_iff_not] at h
  rw [chk88 _ (zHv h),zAB]
  exact Tot.cnd (fun _=>Tot.ret (by simp)) fun _=>Tot.ret ⟨rfl,h⟩
 rintro _ ⟨rfl,h⟩
 exact Tot.ret fun _=>h
end Go.Proofs.YtdpapeledldifaaGreat
end
