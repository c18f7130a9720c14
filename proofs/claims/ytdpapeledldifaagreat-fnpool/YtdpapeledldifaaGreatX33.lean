/- Part 34 of the proof that the law FnPool holds of every input; no condition. -/
import Derived.Test.YtdpapeledldifaaGreatX32
set_option autoImplicit true
set_option relaxedAutoImplicit true
set_option linter.all false
section
namespace Go.Stow
def bndP (p:List Ent):Prop:=p.length≤1048576∧∀ x∈p,x.2.1.length≤1048576
theorem bndP.at {p:List Ent} (h:bndP p) (i:Int):(entAt p i).2.1.length≤1048576:=by
 unfold entAt
 split
 ·rename_i hi
  rw [List.getElem?_eq_getElem (by omega)]
  exact h.2 _ (List.getElem_mem _)
 ·simp
end Go.Stow
namespace Go.Proofs.YtdpapeledldifaaGreat
open Go Go.AM Go.TM Go.Stow
theorem n113 (s:List UInt8) (hl:s.length≤1048576):F113 s=some (decide (Dsc s)):=by
 simp only [F113,n170 s hl,bindO_s]
 congr 1
 rw [Bool.eq_iff_iff,decide_eq_true_iff]
 exact Iff.rfl
noncomputable instance (s:List UInt8):Decidable (Typed s):=Classical.propDecidable _
theorem n121 (s:List UInt8) (hl:s.length≤1048576):F121 s=some (decide (Typed s)):=by
 simp only [F121,n122 s hl,n113 s hl,bindO_s,cndO_d]
 by_cases h:Tok s
 ·rw [if_pos h,eq_comm];simp only [Option.some.injEq,decide_eq_true_eq];exact .inl h
 ·rw [if_neg h];congr 1;rw [decide_eq_decide]
  exact ⟨fun h=>.inr h,fun h'=>h'.resolve_left h⟩
theorem q215 (p:List Cst) (i:Int) (hp:p.length≤1048576):F215 (p,i)=some (entAt p i):=by
 simp only [F215,q107,bindO_s,cndO_d]
 unfold entAt
 by_cases h:1≤i∧i≤p.length
 ·rw [if_pos h,if_pos h]
  have h1:(0:Int)≤i - 1:=by omega
  rw [wI (by omega) (by omega),grdO_d h1,atO_get (by omega),List.getElem?_eq_getElem (by omega)]
  rfl
 ·rw [if_neg h,if_neg h]
theorem q124 (p:List Cst) (i:Int) (hp:p.length≤1048576):F124 (p,i)=some (entAt p i):=by
 simp only [F124,q89,bindO_s,cndO_n,cndO_d]
 unfold entAt
 by_cases h:1≤i∧i≤p.length
 ·rw [if_pos h,if_pos h]
  have h1:(0:Int)≤i - 1:=by omega
  rw [wI (by omega) (by omega),grdO_d h1,atO_get (by omega),List.getElem?_eq_getElem (by omega)]
  rfl
 ·rw [if_neg h,if_neg h]
theorem bindO_e {R:Type} {r:Option Cst} {e:Cst} (h:r=some e) (k:Cst→Option R):bindO r k=k (e.1,e.2.1,e.2.2.1,e.2.2.2):=by rw [h];rfl
theorem q131 (p:List Cst) (i:Int) (hp:bndP p):F131 (p,i)=some (txt p i):=by
 simp only [F131]
 rw [bindO_e (q215 p i hp.1)]
 simp only [cndO_n,cndO_d,txt]
 split <;> rfl
theorem txt_len {p:List Cst} (h:bndP p) (i:Int):(txt p i).length≤1048576:=by
 unfold txt
 split
 ·exact h.at i
 ·simp
theorem q130 (p:List Cst) (i:Int) (hp:bndP p):F130 (p,i)=some (clsN p i):=by
 simp only [F130]
 rw [bindO_e (q215 p i hp.1)]
 simp only
 rw [bindO_e (q215 p _ hp.1)]
 simp only [cndO_n,cndO_d,n127 _ (hp.at _),bindO_s,clsN]
 by_cases h1:(entAt p i).1=2
 ·by_cases h2:(entAt p (entAt p i).2.2.1).1=1
  ·by_cases h3:Nm (entAt p (entAt p i).2.2.1).2.1
   ·rw [if_pos h1,if_pos h2,if_pos h3,if_pos ⟨h1,h2,h3⟩]
   ·rw [if_pos h1,if_pos h2,if_neg h3,if_neg fun h=>h3 h.2.2]
  ·rw [if_pos h1,if_neg h2,if_neg fun h=>h2 h.2.1]
 ·rw [if_neg h1,if_neg fun h=>h1 h.1]
theorem q132 (p:List Cst) (i:Int) (hp:bndP p):F132 (p,i)=some (clsN p (entAt p i).2.2.1,txt p (entAt p (entAt p i).2.2.2).2.2.1,txt p (entAt p (entAt p i).2.2.2).2.2.2):=by
 simp only [F132]
 rw [bindO_e (q215 p i hp.1)]
 simp only
 rw [bindO_e (q215 p _ hp.1)]
 simp only [q130 p _ hp,q131 p _ hp,bindO_s,eq_self,decide_true,grdO_t,seqU_s]
theorem q133 (p:List Cst) (i k:Int) (hp:bndP p):F133 (p,i,k)=some (decide ((entAt p i).1=k)):=by
 simp only [F133]
 rw [bindO_e (q215 p i hp.1)]
theorem at_some {p:List Cst} {i:Int} {Q:List UInt8→Prop} [Decidable (Q (entAt p i).2.1)]:(if (entAt p i).1=1 then some (decide (Q (entAt p i).2.1)) else some false:Option Bool)=some (decide (TxtAt p i Q)):=by
 by_cases h:(entAt p i).1=1
 ·rw [if_pos h];congr 1;rw [decide_eq_decide];exact ⟨fun h'=>⟨h,h'⟩,fun h'=>h'.2⟩
 ·rw [if_neg h,eq_comm];simp only [Option.some.injEq,decide_eq_false_iff_not];exact fun h'=>h h'.1
theorem q49126 (p:List Cst) (i:Int) (hp:bndP p):F49126 (p,i)=some (decide (TxtAt p i Nm)):=by
 simp only [F49126]
 rw [bindO_e (q124 p i hp.1)]
 simp only [n48 _ (hp.at i),bindO_s,cndO_d]
 exact at_some
theorem q122126 (p:List Cst) (i:Int) (hp:bndP p):F122126 (p,i)=some (decide (TxtAt p i Typed)):=by
 simp only [F122126]
 rw [bindO_e (q124 p i hp.1)]
 simp only [n121 _ (hp.at i),bindO_s,cndO_d]
 exact at_some
theorem q123126 (p:List Cst) (i:Int) (hp:bndP p):F123126 (p,i)=some (decide (TxtAt p i Tok)):=by
 simp only [F123126]
 rw [bindO_e (q124 p i hp.1)]
 simp only [n122 _ (hp.at i),bindO_s,cndO_d]
 exact at_some
theorem q114126 (p:List Cst) (i:Int) (hp:bndP p):F114126 (p,i)=some (decide (TxtAt p i Dsc)):=by
 simp only [F114126]
 rw [bindO_e (q124 p i hp.1)]
 simp only [n113 _ (hp.at i),bindO_s,cndO_d]
 exact at_some
theorem q125 (p:List Cst) (i:Int) (hp:bndP p):F125 (p,i)=some (decide (ClsAt p i)):=by
 simp only [F125]
 rw [bindO_e (q124 p i hp.1)]
 simp only [q49126 p _ hp,bindO_s,cndO_d]
 by_cases h:(entAt p i).1=2
 ·rw [if_pos h];congr 1;rw [decide_eq_decide];exact ⟨fun h'=>⟨h,h'⟩,fun h'=>h'.2⟩
 ·rw [if_neg h,eq_comm];simp only [Option.some.injEq,decide_eq_false_iff_not];exact fun h'=>h h'.1
theorem sd {P:Prop} [Decidable P]:∀ {b:Bool},(b=true↔P)→some b=some (decide P):=by
 intro b h
 congr 1
 rw [Bool.eq_iff_iff,h,decide_eq_true_iff]
theorem q123123 (p:List Cst) (x:Cst) (hp:bndP p):F123123 (p,x)=some (decide (x.2.1=[]∧ClsAt p x.2.2.1∧(entAt p x.2.2.2).1=3∧TxtAt p (entAt p x.2.2.2).2.2.2 Tok),p,x):=by
 obtain ⟨x0,x1,x2,x3⟩:=x
 simp only [F123123]
 rw [bindO_e (q124 p x3 hp.1)]
 simp only [q125 p _ hp,q123126 p _ hp,bindO_s,cndO_d]
 by_cases h1:x1=[] <;> by_cases h2:ClsAt p x2 <;> by_cases h3:(entAt p x3).1=3 <;> simp [h1,h2,h3]
theorem q114123 (p:List Cst) (x:Cst) (hp:bndP p):F114123 (p,x)=some (decide (x.2.1=[]∧ClsAt p x.2.2.1∧(entAt p x.2.2.2).1=3∧TxtAt p (entAt p x.2.2.2).2.2.2 Dsc),p,x):=by
 obtain ⟨x0,x1,x2,x3⟩:=x
 simp only [F114123]
 rw [bindO_e (q124 p x3 hp.1)]
 simp only [q125 p _ hp,q114126 p _ hp,bindO_s,cndO_d]
 by_cases h1:x1=[] <;> by_cases h2:ClsAt p x2 <;> by_cases h3:(entAt p x3).1=3 <;> simp [h1,h2,h3]
theorem q52 (p:List Cst) (x:Cst) (hp:bndP p) (hx:x.2.1.length≤1048576):F52 (p,x)=some (decide (EntOk p x)):=by
 obtain ⟨x0,x1,x2,x3⟩:=x
 simp only at hx
 simp only [F52,q123123 p _ hp,q114123 p _ hp,q49126 p _ hp,q122126 p _ hp,n48 _ hx,n121 _ hx,bindO_s,cndO_d]
 unfold EntOk
 simp only
 by_cases h1:x0=1
 ·by_cases h2:x2=0
  ·by_cases h3:x3=0
   ·by_cases h4:Nm x1
    ·simp [h1,h2,h3,h4]
    ·simp [h1,h2,h3,h4]
   ·simp [h1,h2,h3]
  ·simp [h1,h2]
 ·by_cases h2:x0=2
  ·by_cases h3:x1=[]
   ·by_cases h4:x3=0 <;> simp [h2,h3,h4]
   ·simp [h2,h3]
  ·by_cases h3:x0=3
   ·by_cases h4:x1=[]
    ·by_cases h5:TxtAt p x2 Nm <;> simp [h3,h4,h5]
    ·simp [h3,h4]
   ·by_cases h4:x0=4
    ·simp [h4]
    ·by_cases h5:x0=5
     ·simp [h5]
     ·by_cases h6:x0=6
      ·simp [h6]
      ·simp [h1,h2,h3,h4,h5,h6]
theorem q53 (p:List Cst) (i:Nat) (hp:bndP p) (hi:i<p.length):F53 (p,(i:Int))=some (decide (EntOk p p[i])):=by
 have h0:(0:Int)≤i:=by omega
 have hw:IntKind.wrap .i64 ((i:Int)+1)=(i:Int)+1:=by have:=hp.1;exact wI (by omega) (by omega)
 have hx:p[i].2.1.length≤1048576:=hp.2 _ (List.getElem_mem hi)
 have he:=entAt_get hi
 simp only [F53,h0,decide_true,grdO_t,Int.toNat_natCast,hw]
 rw [atO_get hi]
 simp only [q130 p _ hp,q131 p _ hp,q132 p _ hp,q133 p _ _ hp,q107,he,n127 _ hx,n128 _ hx,n129 _ hx,n127 _ (txt_len hp _),n128 _ (txt_len hp _),n129 _ (txt_len hp _),bindO_s,cndO_n,cndO_d]
 generalize hxe:p[i]=x at he
 obtain ⟨x0,x1,x2,x3⟩:=x
 rw [hxe] at hx
 simp only at hx ⊢
 by_cases e1:x0=1
 ·subst e1
  by_cases h2:x2=0 <;> by_cases h3:x3=0 <;> by_cases h4:Nm x1 <;> by_cases h5:Tok x1 <;> simp only [h2,h3,h4,h5,if_true,if_false] <;> exact sd (by unfold EntOk;simp [*,Typed])
 rw [if_neg e1]
 by_cases e2:x0=2
 ·have hc:clsN p ((i:Int)+1)=[]↔¬ TxtAt p x2 Nm:=by
   rw [← Classical.not_not (a:=clsN p ((i:Int)+1)=[]),not_congr]
   show clsN p ((i:Int)+1)≠[]↔_
   rw [clsN_ne];unfold ClsAt;rw [he];simp [e2]
  subst e2
  by_cases h3:x1=[] <;> by_cases h4:x3=0 <;> by_cases h5:TxtAt p x2 Nm <;> simp only [h3,h4,if_true,if_false] <;> exact sd (by unfold EntOk;simp [*])
 rw [if_neg e2]
 by_cases e3:x0=3
 ·have h6:Nm (txt p x2)↔TxtAt p x2 Nm:=txt_at not_nm_nil
  have h7:Tok (txt p x3)∨Dsc (txt p x3)↔TxtAt p x3 Typed:=txt_at (Q:=Typed) not_typed_nil
  subst e3
  by_cases h3:x1=[] <;> by_cases h4:Nm (txt p x2) <;> by_cases h5:Tok (txt p x3) <;> by_cases h8:Dsc (txt p x3) <;> simp only [h3,h4,h5,h8,if_true,if_false] <;> exact sd (by unfold EntOk;rw [← h6,← h7];clear h6 h7 he hxe;simp [*])
 rw [if_neg e3]
 have hc:clsN p x2=[]↔¬ ClsAt p x2:=by
  rw [← Classical.not_not (a:=clsN p x2=[]),not_congr]
  exact clsN_ne
 by_cases e4:4≤x0∧x0≤6
 ·rw [if_pos e4]
  by_cases h3:x1=[]
  ·rw [if_pos h3]
   by_cases h4:clsN p x2=[]
   ·rw [if_pos h4,bindE_r]
    have:=hc.1 h4
    exact sd (by unfold EntOk;simp [*])
   ·rw [if_neg h4]
    have hcl:ClsAt p x2:=Classical.byContradiction fun h=>h4 (hc.2 h)
    by_cases h5:(entAt p x3).1=3
    ·rw [if_pos h5,bindE_l]
     simp only [n128 _ (txt_len hp _),n129 _ (txt_len hp _),bindO_s]
     have h6:Tok (txt p (entAt p x3).2.2.2)↔TxtAt p (entAt p x3).2.2.2 Tok:=txt_at not_tok_nil
     have h7:Dsc (txt p (entAt p x3).2.2.2)↔TxtAt p (entAt p x3).2.2.2 Dsc:=txt_at not_dsc_nil
     by_cases h8:x0=4
     ·rw [if_pos h8]
      exact sd (by unfold EntOk;rw [decide_eq_true_iff,h6];simp [*])
     ·rw [if_neg h8]
      have h9:x0=5∨x0=6:=by omega
      exact sd (by unfold EntOk;rw [decide_eq_true_iff,h7];simp [*])
    ·rw [if_neg h5,bindE_r]
     exact sd (by unfold EntOk;simp [*])
  ·rw [if_neg h3,bindE_r]
   exact sd (by unfold EntOk;simp [*])
 ·rw [if_neg e4,bindE_r]
  have h8:¬ x0=4:=by omega
  have h9:¬ x0=5:=by omega
  have h10:¬ x0=6:=by omega
  exact sd (by unfold EntOk;simp [*])
theorem q15 (p : List Cst) (hp : bndP p) (h60 : p.length ≤ 60) : F15 p = some (poolC p p.length 0) := by
 simp only [F15, cndO_d, cndO_n]
 have h61 : ¬ (60 : Int) < p.length := by omega
 suffices h : ∀ (m i : Nat), i + m = p.length → ∀ k : List Cst → Option Int, k p = some 0 → bindE (whileO (fun (x : List Cst × Int) =>
   bindE (if x.2 < (x.1.length : Int) then if x.2 < 60 then some (Sum.inl (x.1, x.2)) else some (Sum.inr (Sum.inr (Sum.inl x.1))) else some (Sum.inr (Sum.inr (Sum.inl x.1)))) fun (pool2, i1) =>
   bindO (F53 (pool2, i1)) fun y =>
   cndO y (some (Sum.inl (pool2, IntKind.wrap .i64 (i1 + 1)))) (some (Sum.inr (Sum.inr (IntKind.wrap .i64 (i1 + 1)))))) (p, (i : Int))) k = some (poolC p m i) by
  refine h p.length 0 (by omega) _ ?_
  rw [if_neg h61]
 intro m
 induction m with
 | zero =>
  intro i hi k hk
  have h1 : ¬ (i : Int) < p.length := by omega
  rw [while_end (y := .inl p) (by simp only [h1, if_false, bindE_r]), bindE_l, hk]
  rfl
 | succ m ih =>
  intro i hi k hk
  have h1 : (i : Int) < p.length := by omega
  have h2 : (i : Int) < 60 := by omega
  have hlt : i < p.length := by omega
  unfold poolC
  rw [dif_pos hlt]
  by_cases he : EntOk p p[i]
  ·rw [if_pos he, ← ih (i + 1) (by omega) k hk, while_on]
   simp only [h1, h2, if_true, bindE_l, q53 p i hp hlt, bindO_s, he, decide_true, cndO_t]
   rw [wI (by omega) (by omega)]
   rfl
  ·rw [if_neg he, while_end (y := .inr ((i : Int) + 1)), bindE_r]
   simp only [h1, h2, if_true, bindE_l, q53 p i hp hlt, bindO_s, he, decide_false, cndO_f]
   rw [wI (by omega) (by omega)]
end Go.Proofs.YtdpapeledldifaaGreat
end
section
namespace Go.TM
open Go.AM
section
variable {α X Y R S:Type}
theorem atO_gd {l:List α} {n:Nat} {k:α→Option R} (d:α) (h:n<l.length):atO l n k=k (l.getD n d):=by
 rw [atO_get h,List.getD_eq_getElem?_getD,List.getElem?_eq_getElem h];rfl
theorem ask_or {f:X→Option (X ⊕ (Y ⊕ R))} (F:Option R→Option S) (mk:Nat→X) (fin:Y) (no:R) (n:Nat) (q:Nat→Prop) {x0:X} {k:Y→Option R} {P:Prop} {A B:Option S} (hx:x0=mk 0)
  (hend:f (mk n)=some (.inr (.inl fin)))
  (hstep:∀ i,i<n→(q i∧f (mk i)=some (.inl (mk (i+1))))∨(¬ q i∧f (mk i)=some (.inr (.inr no))))
  (hP:P↔∀ i,i<n→q i) (hA:F (k fin)=A) (hB:F (some no)=B) :
  (P∧F (bindE (whileO f x0) k)=A)∨(¬ P∧F (bindE (whileO f x0) k)=B):=by
 have key:∀ r,((∀ i,i<n→q i)→k fin=r)→(¬ (∀ i,i<n→q i)→some no=r)→bindE (whileO f x0) k=r:=fun r h1 h2 =>
  askI_loop mk fin no n q hx hend (fun i h hq=>(hstep i h).elim (fun h=>h.2) fun h=>absurd hq h.1) (fun i h hq=>(hstep i h).elim (fun h=>absurd h.1 hq) fun h=>h.2) h1 h2
 by_cases h:∀ i,i<n→q i
 ·exact .inl ⟨hP.2 h,by rw [key (k fin) (fun _=>rfl) (fun h'=>absurd h h'),hA]⟩
 ·exact .inr ⟨fun hp=>h (hP.1 hp),by rw [key (some no) (fun h'=>absurd h' h) (fun _=>rfl),hB]⟩
theorem ask_r {f:X→Option (X ⊕ (Y ⊕ R))} (mk:Nat→X) (fin:Y) (no:R) (n:Nat) (q:Nat→Prop) {x0:X} {k:Y→Option R} {r:Option R} (hx:x0=mk 0)
  (hend:f (mk n)=some (.inr (.inl fin)))
  (hstep:∀ i,i<n→(q i∧f (mk i)=some (.inl (mk (i+1))))∨(¬ q i∧f (mk i)=some (.inr (.inr no))))
  (hk:(∀ i,i<n→q i)→k fin=r) (hno:¬ (∀ i,i<n→q i)→some no=r):bindE (whileO f x0) k=r :=
 askI_loop mk fin no n q hx hend (fun i h hq=>(hstep i h).elim (fun h=>h.2) fun h=>absurd hq h.1) (fun i h hq=>(hstep i h).elim (fun h=>absurd h.1 hq) fun h=>h.2) hk hno
end
end Go.TM
end
section
namespace Go.Stow
theorem clsN_nil {p:List Ent} {i:Int}:clsN p i=[]↔¬ ClsAt p i:=by
 constructor
 ·intro h hc;exact clsN_ne.2 hc h
 ·intro h;exact Classical.byContradiction fun hn=>h (clsN_ne.1 hn)
end Go.Stow
namespace Go.Proofs.YtdpapeledldifaaGreat
open Go Go.AM Go.TM Go.Stow
theorem q108 {f k:Int} (h0:0≤f) (h1:f≤255) (hk:1≤k):F108 (f,k)=some (decide (has f k)):=by
 have hk0:¬ k=0:=by omega
 have hd:0≤f / k:=Int.ediv_nonneg h0 (by omega)
 have hd2:f / k≤f:=Int.ediv_le_self k h0
 simp only [F108,hk0,decide_false,Bool.not_false,grdO_t]
 rw [Int.tdiv_eq_ediv_of_nonneg h0,wI (by omega) (by omega),Int.tmod_eq_emod_of_nonneg hd]
 rfl
theorem q175 (c:Cls) (hp:bndP c.1) (hf:0≤c.2.1∧c.2.1≤255) (hl:c.2.2.2.2.1.length≤1048576):F175 c=some (decide (HeadOk c)):=by
 obtain ⟨c0,c1,c2,c3,c4,c5,c6⟩:=c
 obtain ⟨hf0,hf1⟩:=hf
 simp only at hp hf0 hf1 hl
 have hH:HeadOk (c0,c1,c2,c3,c4,c5,c6)↔(ClsAt c0 c2∧ClsAt c0 c3∧clsN c0 c3≠clsN c0 c2∧(0≤c1∧c1≤7)∧(∀ i,i<c4.length→ClsAt c0 (c4.getD i 0)∧∀ k,k<i→clsN c0 (c4.getD k 0)≠clsN c0 (c4.getD i 0))∧¬ (has c1 2∧has c1 4)∧(has c1 1→has c1 4∧clsN c0 c3=[79,98,106])):=Iff.rfl
 simp only [F175,q130 _ _ hp,bindO_s,q107,cndO_n,cndO_d]
 by_cases a1:clsN c0 c2=[]
 ·rw [if_pos a1,bindE_r]
  exact sd (by rw [hH];simp [clsN_nil.1 a1])
 rw [if_neg a1]
 have a1:=clsN_ne.1 a1
 by_cases a2:clsN c0 c3=[]
 ·rw [if_pos a2,bindE_r]
  exact sd (by rw [hH];simp [clsN_nil.1 a2])
 rw [if_neg a2]
 have a2:=clsN_ne.1 a2
 by_cases a3:clsN c0 c3=clsN c0 c2
 ·rw [if_pos a3,bindE_r]
  exact sd (by rw [hH];simp [a3])
 rw [if_neg a3]
 by_cases a4:0≤c1∧c1≤7
 ·rw [if_pos a4,bindE_l]
  simp only
  refine ask_r (fun i=>(clsN c0 c3,(i:Int),c0,c1,c2,c3,c4,c5,c6)) (clsN c0 c3,c0,c1,c2,c3,c4,c5,c6) false c4.length (fun i=>ClsAt c0 (c4.getD i 0)∧∀ k,k<i→clsN c0 (c4.getD k 0)≠clsN c0 (c4.getD i 0)) rfl ?_ ?_ ?_ ?_
  ·simp only [Int.lt_irrefl,if_false]
  ·intro i hi
   have h1:(i:Int)<c4.length:=by omega
   have h0:(0:Int)≤i:=by omega
   simp only [h1,h0,if_true,decide_true,grdO_t,Int.toNat_natCast]
   rw [atO_gd 0 hi]
   simp only [q130 _ _ hp,bindO_s]
   by_cases b1:clsN c0 (c4.getD i 0)=[]
   ·rw [if_pos b1,bindE_r]
    exact .inr ⟨fun h=>clsN_ne.2 h.1 b1,rfl⟩
   ·rw [if_neg b1]
    have b1:=clsN_ne.1 b1
    refine ask_or (F:=(bindE · _)) (fun k=>(clsN c0 c3,(i:Int),(k:Int),c0,c1,c2,c3,c4,c5,c6)) (clsN c0 c3,(i:Int),c0,c1,c2,c3,c4,c5,c6) (.inr (.inr (.inr false))) i (fun k=>clsN c0 (c4.getD k 0)≠clsN c0 (c4.getD i 0)) rfl ?_ ?_ ?_ ?_ ?_
    ·simp only [Int.lt_irrefl,if_false]
    ·intro k hk
     have k1:(k:Int)<i:=by omega
     have k0:(0:Int)≤k:=by omega
     have hkl:k<c4.length:=by omega
     simp only [k1,k0,h0,if_true,decide_true,grdO_t,Int.toNat_natCast]
     rw [atO_gd 0 hkl,atO_gd 0 hi]
     simp only [atO_gd 0 hi,q130 _ _ hp,bindO_s,eq_self,decide_true,Bool.and_true,grdO_t,seqU_s]
     by_cases e:clsN c0 (c4.getD k 0)=clsN c0 (c4.getD i 0)
     ·rw [if_pos e];exact .inr ⟨fun h=>h e,rfl⟩
     ·rw [if_neg e,wI (by omega) (by omega)];exact .inl ⟨e,rfl⟩
    ·exact ⟨fun h=>h.2,fun h=>⟨b1,h⟩⟩
    ·simp only [bindE_l]
     rw [wI (by omega) (by omega)]
     rfl
    ·rfl
  ·intro hall
   have hH':HeadOk (c0,c1,c2,c3,c4,c5,c6)↔(¬ (has c1 2∧has c1 4)∧(has c1 1→has c1 4∧clsN c0 c3=[79,98,106])):=by
    rw [hH]
    exact ⟨fun h=>h.2.2.2.2.2,fun h=>⟨a1,a2,a3,a4,hall,h⟩⟩
   simp only [q108 hf0 hf1 (show (1:Int)≤2 by omega),q108 hf0 hf1 (show (1:Int)≤4 by omega),q108 hf0 hf1 (show (1:Int)≤1 by omega),bindO_s,cndO_d]
   by_cases b2:has c1 2 <;> by_cases b4:has c1 4 <;> by_cases b1:has c1 1 <;> simp only [q108 hf0 hf1 (show (1:Int)≤4 by omega),q108 hf0 hf1 (show (1:Int)≤1 by omega),bindO_s,cndO_d,b1,b2,b4,if_true,if_false,bindE_l,bindE_r] <;> refine sd ?_ <;> rw [hH'] <;> simp [b1,b2,b4]
  ·intro hall
   exact sd (by rw [hH];simp only [Bool.false_eq_true,false_iff];exact fun h=>hall h.2.2.2.2.1)
 ·rw [if_neg a4,bindE_r]
  exact sd (by rw [hH];simp only [Bool.false_eq_true,false_iff];exact fun h=>a4 h.2.2.2.1)
end Go.Proofs.YtdpapeledldifaaGreat
end
section
namespace Go.Stow
end Go.Stow
namespace Go.Proofs.YtdpapeledldifaaGreat
open Go Go.AM Go.TM Go.Stow
theorem q176 (c:Cls) (hp:bndP c.1) (hf:0≤c.2.1∧c.2.1≤255) (hl:c.2.2.2.2.2.1.length≤1048576):F176 c=some (decide (FldsOk c)):=by
 obtain ⟨c0,c1,c2,c3,c4,c5,c6⟩:=c
 obtain ⟨hf0,hf1⟩:=hf
 simp only at hp hf0 hf1 hl
 simp only [F176,cndO_d]
 refine ask_r (fun i=>((i:Int),c0,c1,c2,c3,c4,c5,c6)) () false c5.length (FldOk (c0,c1,c2,c3,c4,c5,c6)) rfl ?_ ?_ ?_ ?_
 ·simp only [Int.lt_irrefl,if_false]
 ·intro i hi
  have h1:(i:Int)<c5.length:=by omega
  have h0:(0:Int)≤i:=by omega
  simp only [h1,h0,if_true,decide_true,grdO_t,Int.toNat_natCast]
  rw [atO_gd (0,0,0) hi]
  have hF:FldOk (c0,c1,c2,c3,c4,c5,c6) i↔(TxtAt c0 (c5.getD i (0,0,0)).2.1 Nm∧TxtAt c0 (c5.getD i (0,0,0)).2.2 Tok∧(0≤(c5.getD i (0,0,0)).1∧(c5.getD i (0,0,0)).1≤3)∧(has c1 1→(c5.getD i (0,0,0)).1=1)∧∀ k,k<i→txt c0 (c5.getD k (0,0,0)).2.1≠txt c0 (c5.getD i (0,0,0)).2.1):=Iff.rfl
  rw [hF]
  generalize c5.getD i (0,0,0)=x
  simp only [q131 _ _ hp,n127 _ (txt_len hp _),n128 _ (txt_len hp _),q107,bindO_s,cndO_n,cndO_d]
  have t1:Nm (txt c0 x.2.1)↔TxtAt c0 x.2.1 Nm:=txt_at not_nm_nil
  have t2:Tok (txt c0 x.2.2)↔TxtAt c0 x.2.2 Tok:=txt_at not_tok_nil
  by_cases b1:Nm (txt c0 x.2.1)
  ·rw [if_pos b1]
   by_cases b2:Tok (txt c0 x.2.2)
   ·rw [if_pos b2]
    by_cases b3:0≤x.1∧x.1≤3
    ·rw [if_pos b3,bindE_l]
     simp only [q108 hf0 hf1 (show (1:Int)≤1 by omega),bindO_s,cndO_d]
     by_cases b4:has c1 1→x.1=1
     ·rw [show (if has c1 1 then if x.1=1 then some (Sum.inl ((i:Int),(c0,c1,c2,c3,c4,c5,c6),x.1,x.2.1,x.2.2)) else some (Sum.inr (Sum.inr (Sum.inr (Sum.inr false)))) else some (Sum.inl ((i:Int),(c0,c1,c2,c3,c4,c5,c6),x.1,x.2.1,x.2.2)):Option ((Int×Cls×Int×Int×Int) ⊕ ((Int×Cls) ⊕ ((Int×Cls) ⊕ (Unit ⊕ Bool)))))=some (Sum.inl ((i:Int),(c0,c1,c2,c3,c4,c5,c6),x.1,x.2.1,x.2.2)) by
       by_cases g:has c1 1
       ·rw [if_pos g,if_pos (b4 g)]
       ·rw [if_neg g],bindE_l]
      simp only
      refine ask_or (F:=(bindE · _)) (fun k=>((i:Int),(k:Int),(c0,c1,c2,c3,c4,c5,c6),x.1,x.2.1,x.2.2)) ((i:Int),c0,c1,c2,c3,c4,c5,c6) (.inr (.inr (.inr false))) i (fun k=>txt c0 (c5.getD k (0,0,0)).2.1≠txt c0 x.2.1) rfl ?_ ?_ ?_ ?_ ?_
      ·simp only [Int.lt_irrefl,if_false]
      ·intro k hk
       have k1:(k:Int)<i:=by omega
       have k0:(0:Int)≤k:=by omega
       have hkl:k<c5.length:=by omega
       simp only [k1,k0,if_true,decide_true,grdO_t,Int.toNat_natCast]
       rw [atO_gd (0,0,0) hkl]
       simp only [q131 _ _ hp,bindO_s,eq_self,decide_true,grdO_t,seqU_s]
       by_cases e:txt c0 (c5.getD k (0,0,0)).2.1=txt c0 x.2.1
       ·rw [if_pos e];exact .inr ⟨fun h=>h e,rfl⟩
       ·rw [if_neg e,wI (by omega) (by omega)];exact .inl ⟨e,rfl⟩
      ·exact ⟨fun h=>h.2.2.2.2,fun h=>⟨t1.1 b1,t2.1 b2,b3,b4,h⟩⟩
      ·simp only [bindE_l]
       rw [wI (by omega) (by omega)]
       rfl
      ·rfl
     ·have g:has c1 1:=Classical.byContradiction fun h=>b4 fun h'=>absurd h' h
      have g2:¬ x.1=1:=fun h=>b4 fun _=>h
      rw [if_pos g,if_neg g2]
      exact .inr ⟨fun h=>g2 (h.2.2.2.1 g),rfl⟩
    ·rw [if_neg b3]
     exact .inr ⟨fun h=>b3 h.2.2.1,rfl⟩
   ·rw [if_neg b2]
    exact .inr ⟨fun h=>b2 (t2.2 h.2.1),rfl⟩
  ·rw [if_neg b1]
   exact .inr ⟨fun h=>b1 (t1.2 h.1),rfl⟩
 ·intro hall
  exact sd (iff_of_true rfl hall)
 ·intro hall
  exact sd (iff_of_false (by simp) hall)
end Go.Proofs.YtdpapeledldifaaGreat
end
section
namespace Go.Stow
def FldOkI (c:ClsP) (i:Nat):Prop :=
 let f:=c.2.2.2.2.2.1.getD i (0,0,0)
 TxtAt c.1 f.2.1 Nm∧TxtAt c.1 f.2.2 Tok∧(0≤f.1∧f.1≤3)∧(has c.2.1 1→f.1=1)∧∀ k,k<i→nameI c.1 (c.2.2.2.2.2.1.getD k (0,0,0)).2.1≠nameI c.1 f.2.1
noncomputable instance (c:ClsP) (i:Nat):Decidable (FldOkI c i):=Classical.propDecidable _
def MthOkI (c:ClsP) (i:Nat):Prop :=
 let m:=c.2.2.2.2.2.2.getD i mth0
 TxtAt c.1 m.2.1 Nm∧TxtAt c.1 m.2.2.1 Dsc∧FlagsOk c m ∧
 ∀ k,k<i→¬ (nameI c.1 (c.2.2.2.2.2.2.getD k mth0).2.1=nameI c.1 m.2.1∧nameI c.1 (c.2.2.2.2.2.2.getD k mth0).2.2.1=nameI c.1 m.2.2.1)
noncomputable instance (c:ClsP) (i:Nat):Decidable (MthOkI c i):=Classical.propDecidable _
end Go.Stow
namespace Go.Proofs.YtdpapeledldifaaGreat
open Go Go.AM Go.TM Go.Stow
theorem q244 (c:Cls) (m:Mth) (hp:bndP c.1) (hf:0≤c.2.1∧c.2.1≤255) (hm:0≤m.1∧m.1≤255):F244 (c,m)=some (decide (FlagsOk c m)):=by
 obtain ⟨c0,c1,c2,c3,c4,c5,c6⟩:=c
 obtain ⟨m0,m1,m2,m3,m4,m5,m6,m7⟩:=m
 obtain ⟨hf0,hf1⟩:=hf
 obtain ⟨hm0,hm1⟩:=hm
 simp only at hp hf0 hf1 hm0 hm1
 have hF:FlagsOk (c0,c1,c2,c3,c4,c5,c6) (m0,m1,m2,m3,m4,m5,m6,m7)↔((0≤m0∧m0≤15)∧(txt c0 m1=[98,101,103,105,110]→m0=1∧txt c0 m2=[40,41,86])∧(has m0 8→m0=8∧has c1 4)∧(¬ has m0 8→has c1 1→m0=1)):=Iff.rfl
 simp only [F244,q131 _ _ hp,q107,bindO_s,cndO_n,cndO_d]
 by_cases b1:0≤m0∧m0≤15
 ·rw [if_pos b1]
  have e8:=q108 hm0 hm1 (show (1:Int)≤8 by omega)
  have e4:=q108 hf0 hf1 (show (1:Int)≤4 by omega)
  have e1:=q108 hf0 hf1 (show (1:Int)≤1 by omega)
  have go:(txt c0 m1=[98,101,103,105,110]→m0=1∧txt c0 m2=[40,41,86])→(if has m0 8 then if m0=8 then some (decide (has c1 4)) else some false else if has c1 1 then some (decide (m0=1)) else some true:Option Bool)=some (decide (FlagsOk (c0,c1,c2,c3,c4,c5,c6) (m0,m1,m2,m3,m4,m5,m6,m7))):=by
   intro b2
   by_cases b5:has m0 8
   ·rw [if_pos b5]
    by_cases b8:m0=8
    ·rw [if_pos b8]
     refine sd ?_
     rw [hF,decide_eq_true_iff]
     exact ⟨fun h=>⟨b1,b2,fun _=>⟨b8,h⟩,fun h=>absurd b5 h⟩,fun h=>(h.2.2.1 b5).2⟩
    ·rw [if_neg b8]
     exact sd (by rw [hF];exact iff_of_false (by simp) fun h=>b8 (h.2.2.1 b5).1)
   ·rw [if_neg b5]
    by_cases b7:has c1 1
    ·rw [if_pos b7]
     refine sd ?_
     rw [hF,decide_eq_true_iff]
     exact ⟨fun h=>⟨b1,b2,fun h'=>absurd h' b5,fun _ _=>h⟩,fun h=>h.2.2.2 b5 b7⟩
    ·rw [if_neg b7]
     exact sd (by rw [hF];exact iff_of_true rfl ⟨b1,b2,fun h'=>absurd h' b5,fun _ h=>absurd h b7⟩)
  by_cases b2:txt c0 m1=[98,101,103,105,110]
  ·rw [if_pos b2]
   by_cases b3:m0=1
   ·rw [if_pos b3]
    by_cases b4:txt c0 m2=[40,41,86]
    ·rw [if_pos b4,bindE_l]
     simp only [e8,e4,e1,bindO_s,cndO_d]
     exact go fun _=>⟨b3,b4⟩
    ·rw [if_neg b4,bindE_r]
     exact sd (by rw [hF];exact iff_of_false (by simp) fun h=>b4 (h.2.1 b2).2)
   ·rw [if_neg b3,bindE_r]
    exact sd (by rw [hF];exact iff_of_false (by simp) fun h=>b3 (h.2.1 b2).1)
  ·rw [if_neg b2,bindE_l]
   simp only [e8,e4,e1,bindO_s,cndO_d]
   exact go fun h=>absurd h b2
 ·rw [if_neg b1]
  exact sd (by rw [hF];exact iff_of_false (by simp) fun h=>b1 h.1)
theorem q177 (c:Cls) (hp:bndP c.1) (hf:0≤c.2.1∧c.2.1≤255) (hl:c.2.2.2.2.2.2.length≤1048576) (hm:∀ m∈c.2.2.2.2.2.2,0≤m.1∧m.1≤255):F177 c=some (decide (MthsOk c)):=by
 obtain ⟨c0,c1,c2,c3,c4,c5,c6⟩:=c
 simp only at hp hl hm
 simp only [F177,cndO_d]
 refine ask_r (fun i=>((i:Int),c0,c1,c2,c3,c4,c5,c6)) () false c6.length (MthOk (c0,c1,c2,c3,c4,c5,c6)) rfl ?_ ?_ ?_ ?_
 ·simp only [Int.lt_irrefl,if_false]
 ·intro i hi
  have h1:(i:Int)<c6.length:=by omega
  have h0:(0:Int)≤i:=by omega
  have hmi:0≤(c6.getD i mth0).1∧(c6.getD i mth0).1≤255:=by
   rw [List.getD_eq_getElem?_getD,List.getElem?_eq_getElem hi]
   exact hm _ (List.getElem_mem hi)
  simp only [h1,h0,if_true,decide_true,grdO_t,Int.toNat_natCast]
  rw [atO_gd mth0 hi]
  have hF:MthOk (c0,c1,c2,c3,c4,c5,c6) i↔(TxtAt c0 (c6.getD i mth0).2.1 Nm∧TxtAt c0 (c6.getD i mth0).2.2.1 Dsc∧FlagsOk (c0,c1,c2,c3,c4,c5,c6) (c6.getD i mth0) ∧
   ∀ k,k<i→¬ (txt c0 (c6.getD k mth0).2.1=txt c0 (c6.getD i mth0).2.1∧txt c0 (c6.getD k mth0).2.2.1=txt c0 (c6.getD i mth0).2.2.1)):=Iff.rfl
  rw [hF]
  generalize c6.getD i mth0=x at hmi
  have z244:F244 ((c0,c1,c2,c3,c4,c5,c6),x.1,x.2.1,x.2.2.1,x.2.2.2.1,x.2.2.2.2.1,x.2.2.2.2.2.1,x.2.2.2.2.2.2.1,x.2.2.2.2.2.2.2)=some (decide (FlagsOk (c0,c1,c2,c3,c4,c5,c6) x)):=q244 (c0,c1,c2,c3,c4,c5,c6) x hp hf hmi
  simp only [q131 _ _ hp,n127 _ (txt_len hp _),n129 _ (txt_len hp _),z244,bindO_s,cndO_n,cndO_d]
  have t1:Nm (txt c0 x.2.1)↔TxtAt c0 x.2.1 Nm:=txt_at not_nm_nil
  have t2:Dsc (txt c0 x.2.2.1)↔TxtAt c0 x.2.2.1 Dsc:=txt_at not_dsc_nil
  by_cases b1:Nm (txt c0 x.2.1)
  ·rw [if_pos b1]
   by_cases b2:Dsc (txt c0 x.2.2.1)
   ·rw [if_pos b2]
    by_cases b3:FlagsOk (c0,c1,c2,c3,c4,c5,c6) x
    ·rw [if_pos b3,bindE_l]
     simp only
     refine ask_or (F:=(bindE · _)) (fun k=>((i:Int),(k:Int),(c0,c1,c2,c3,c4,c5,c6),x.1,x.2.1,x.2.2.1,x.2.2.2.1,x.2.2.2.2.1,x.2.2.2.2.2.1,x.2.2.2.2.2.2.1,x.2.2.2.2.2.2.2)) ((i:Int),c0,c1,c2,c3,c4,c5,c6) (.inr (.inr (.inr false))) i (fun k=>¬ (txt c0 (c6.getD k mth0).2.1=txt c0 x.2.1∧txt c0 (c6.getD k mth0).2.2.1=txt c0 x.2.2.1)) rfl ?_ ?_ ?_ ?_ ?_
     ·simp only [Int.lt_irrefl,if_false]
     ·intro k hk
      have k1:(k:Int)<i:=by omega
      have k0:(0:Int)≤k:=by omega
      have hkl:k<c6.length:=by omega
      simp only [k1,k0,if_true,decide_true,grdO_t,Int.toNat_natCast]
      rw [atO_gd mth0 hkl]
      simp only [atO_gd mth0 hkl,q131 _ _ hp,bindO_s,eq_self,decide_true,grdO_t,seqU_s]
      by_cases e:txt c0 (c6.getD k mth0).2.1=txt c0 x.2.1
      ·rw [if_pos e]
       by_cases e2:txt c0 (c6.getD k mth0).2.2.1=txt c0 x.2.2.1
       ·rw [if_pos e2,bindE_r];exact .inr ⟨fun h=>h ⟨e,e2⟩,rfl⟩
       ·rw [if_neg e2,bindE_l]
        simp only
        rw [wI (by omega) (by omega)];exact .inl ⟨fun h=>e2 h.2,rfl⟩
      ·rw [if_neg e,bindE_l]
       simp only
       rw [wI (by omega) (by omega)];exact .inl ⟨fun h=>e h.1,rfl⟩
     ·exact ⟨fun h=>h.2.2.2,fun h=>⟨t1.1 b1,t2.1 b2,b3,h⟩⟩
     ·simp only [bindE_l]
      rw [wI (by omega) (by omega)]
      rfl
     ·rfl
    ·rw [if_neg b3]
     exact .inr ⟨fun h=>b3 h.2.2.1,rfl⟩
   ·rw [if_neg b2]
    exact .inr ⟨fun h=>b2 (t2.2 h.2.1),rfl⟩
  ·rw [if_neg b1]
   exact .inr ⟨fun h=>b1 (t1.2 h.1),rfl⟩
 ·intro hall
  exact sd (iff_of_true rfl hall)
 ·intro hall
  exact sd (iff_of_false (by simp) hall)
end Go.Proofs.YtdpapeledldifaaGreat
end
section
namespace Go.TM
end Go.TM
namespace Go.Proofs.YtdpapeledldifaaGreat
open Go Go.AM Go.TM Go.Stow
end Go.Proofs.YtdpapeledldifaaGreat
end
section
namespace Go.Stow
theorem argN_le (op:Int) : -1≤argN op∧argN op≤2:=by unfold argN;repeat' split <;> omega
end Go.Stow
namespace Go.Proofs.YtdpapeledldifaaGreat
open Go Go.AM Go.TM Go.Stow
theorem q251 (op:Int):F251 op=some (argN op):=by
 simp only [F251,q107,bindO_s,cndO_d,bindE_if,bindE_l,bindE_r]
 unfold argN
 repeat' split
 all_goals first | rfl | (exfalso;omega)
theorem q252 (s : List UInt8) (op : Int) (hs : s.length ≤ 2) : F252 (s, op) = some (numB op s) := by
 match s, hs with
 | [], _ => rfl
 | [a], _ =>
  have ha := a.toNat_lt
  have e0 : ∀ k : UInt8 → Option Int, atO [a] 0 k = k a := fun k => rfl
  simp (discharger := omega) only [F252, List.length_cons, List.length_nil, e0, wI, cndO_d, bindE_if, bindE_l, numB]
  rw [if_neg (by omega), if_neg (by omega)]
  rw [if_neg (show ¬ (32768 : Int) ≤ (a.toNat : Int) by omega)]
  split <;> rfl
 | [a, b], _ =>
  have ha := a.toNat_lt
  have hb := b.toNat_lt
  have e0 : ∀ k : UInt8 → Option Int, atO [a, b] 0 k = k a := fun k => rfl
  have e1 : ∀ k : UInt8 → Option (Int × Int ⊕ Int), atO [a, b] 1 k = k b := fun k => rfl
  simp (discharger := omega) only [F252, List.length_cons, List.length_nil, e0, e1, wI, cndO_d, bindE_if, bindE_l, numB]
  rw [if_neg (by omega), if_pos (by omega)]
  by_cases h1 : op = 1
  ·rw [if_pos h1]
   by_cases h2 : (32768 : Int) ≤ (a.toNat : Int) * 256 + (b.toNat : Int)
   ·rw [if_pos h2, if_pos ⟨h1, h2⟩]
   ·rw [if_neg h2, if_neg fun h => h2 h.2]
  ·rw [if_neg h1, if_neg fun h => h1 h.1]
theorem ops_loop {X Y R : Type} {f : X → Option (X ⊕ (Y ⊕ R))} {k : Y → Option R} (s : List UInt8) (mk : List InsP → Nat → X) (bad : R) (good : List InsP → R)
  (hend : ∀ out, out.length ≤ s.length → bindE (whileO f (mk out s.length)) k = some (good out))
  (hbad : ∀ out a (h : a < s.length), out.length ≤ a → (argN s[a].toNat < 0 ∨ ((s.drop (a + 1)).length : Int) < argN s[a].toNat) → bindE (whileO f (mk out a)) k = some bad)
  (hstep : ∀ out a (h : a < s.length) (n : Nat), out.length ≤ a → argN s[a].toNat = n → n ≤ (s.drop (a + 1)).length → f (mk out a) = some (.inl (mk (out ++ [((a : Int), (s[a].toNat : Int), numB s[a].toNat ((s.drop (a + 1)).take n))]) (a + 1 + n)))) :
  ∀ (m a : Nat) (out : List InsP), s.length - a ≤ m → a ≤ s.length → out.length ≤ a → bindE (whileO f (mk out a)) k = some (match opsN m (a : Int) (s.drop a) with | some r => good (out ++ r) | none => bad) := by
 intro m
 induction m with
 | zero =>
  intro a out hm ha ho
  have : a = s.length := by omega
  subst this
  rw [hend out ho, List.drop_eq_nil_of_le (Nat.le_refl _)]
  simp only [opsN, List.append_nil]
 | succ m ih =>
  intro a out hm ha ho
  by_cases h : a < s.length
  ·rw [drop_cons h]
   simp only [opsN]
   by_cases hb : argN s[a].toNat < 0 ∨ ((s.drop (a + 1)).length : Int) < argN s[a].toNat
   ·rw [if_pos hb, hbad out a h ho hb]
   ·rw [if_neg hb]
    have hn : argN s[a].toNat = ((argN s[a].toNat).toNat : Int) := by omega
    generalize (argN s[a].toNat).toNat = n at hn
    have hle : n ≤ (s.drop (a + 1)).length := by omega
    have hd : (s.drop (a + 1)).drop n = s.drop (a + 1 + n) := by rw [List.drop_drop]
    have hlen : a + 1 + n ≤ s.length := by simp only [List.length_drop] at hle; omega
    rw [while_on (hstep out a h n ho hn hle), ih (a + 1 + n) _ (by omega) hlen (by simp only [List.length_append, List.length_cons, List.length_nil]; omega), hn, hd]
    rw [show (((a + 1 + n : Nat)) : Int) = (a : Int) + 1 + n by omega]
    cases opsN m ((a : Int) + 1 + n) (s.drop (a + 1 + n)) with
    | none => rfl
    | some q => simp only [Option.map_some, List.append_assoc, List.singleton_append]
  ·have : a = s.length := by omega
   subst this
   rw [hend out ho, List.drop_eq_nil_of_le (Nat.le_refl _)]
   simp only [opsN, List.append_nil]
theorem q193 (s : List UInt8) (hs : s.length ≤ 1048576) : F193 s = some (opsV s) := by
 simp only [F193, cndO_d]
 refine (ops_loop s (fun out a => (s, out, (a : Int))) ([], false) (fun r => (r, decide ((0 : Int) < r.length))) ?_ ?_ ?_ s.length 0 [] (by omega) (by omega) (by simp)).trans ?_
 ·intro out ho
  rw [while_end (y := .inl out) (by simp only [Int.lt_irrefl, if_false]), bindE_l]
 ·intro out a h ho hb
  have h1 : (a : Int) < s.length := by omega
  have h0 : (0 : Int) ≤ a := by omega
  have hr := s[a].toNat_lt
  rw [while_end (y := .inr ([], false)), bindE_r]
  simp (discharger := omega) only [h1, h0, if_true, decide_true, grdO_t, Int.toNat_natCast, atO_get, wI, q251, bindO_s]
  by_cases h2 : argN s[a].toNat < 0
  ·rw [if_pos h2, bindE_r]
  ·have h3 := (argN_le s[a].toNat).2
   have h4 : (s.length : Int) < (a : Int) + 1 + argN s[a].toNat := by
    have := hb.resolve_left h2
    simp only [List.length_drop] at this
    omega
   rw [if_neg h2, wI (by omega) (by omega), if_pos h4, bindE_r]
 ·intro out a h n ho hn hle
  have h1 : (a : Int) < s.length := by omega
  have h0 : (0 : Int) ≤ a := by omega
  have hr := s[a].toNat_lt
  have hn2 := (argN_le s[a].toNat).2
  rw [hn] at hn2
  have h2 : ¬ ((n : Int) < 0) := by omega
  have hle' := hle
  simp only [List.length_drop] at hle'
  have h4 : ¬ (s.length : Int) < (a : Int) + 1 + n := by omega
  have g1 : (0 : Int) ≤ (a : Int) + 1 := by omega
  have g2 : (a : Int) + 1 ≤ (a : Int) + 1 + n := by omega
  have g3 : (a : Int) + 1 + n ≤ s.length := by omega
  have t1 : ((a : Int) + 1).toNat = a + 1 := by omega
  have t2 : ((a : Int) + 1 + n).toNat = a + 1 + n := by omega
  have hd : (s.take (a + 1 + n)).drop (a + 1) = (s.drop (a + 1)).take n := by rw [List.drop_take]; congr 1; omega
  have hl2 : ((s.drop (a + 1)).take n).length ≤ 2 := by simp only [List.length_take]; omega
  have q5 : out.length + 1 ≤ 9223372036854775807 := by omega
  have q6 : (out.length + 1) * 24 ≤ 140737488355328 := by omega
  simp (discharger := omega) only [h1, h0, if_true, decide_true, grdO_t, Int.toNat_natCast, atO_get, wI, q251, bindO_s, hn, h2, h4, if_false, bindE_l, g1, g2, g3, Bool.and_self, t1, t2, hd, q252 _ _ hl2, q5, q6]
  rfl
 ·rw [List.drop_zero]
  unfold opsV
  simp only [List.nil_append]
  show some (match opsN s.length (0 : Int) s with | some r => _ | none => _) = _
  cases opsN s.length 0 s with
  | none => rfl
  | some r =>
   cases r with
   | nil => rfl
   | cons x r => simp
end Go.Proofs.YtdpapeledldifaaGreat
end
section
namespace Go.Stow
theorem all_getD {α:Type} {l:List α} (d:α) {P:α→Prop}:(∀ x∈l,P x)↔∀ i,i<l.length→P (l.getD i d):=by
 constructor
 ·intro h i hi
  rw [List.getD_eq_getElem?_getD,List.getElem?_eq_getElem hi]
  exact h _ (List.getElem_mem hi)
 ·intro h x hx
  obtain ⟨i,hi,rfl⟩:=List.mem_iff_getElem.1 hx
  have:=h i hi
  rwa [List.getD_eq_getElem?_getD,List.getElem?_eq_getElem hi] at this
theorem opsN_len : ∀ (m : Nat) (a : Int) (s : List UInt8) (r : List InsP), opsN m a s = some r → r.length ≤ m
 | 0, a, [], r, h => by simp only [opsN, Option.some.injEq] at h; simp [← h]
 | _ + 1, a, [], r, h => by simp only [opsN, Option.some.injEq] at h; simp [← h]
 | 0, a, _ :: _, r, h => by simp [opsN] at h
 | m + 1, a, x :: l, r, h => by
  simp only [opsN] at h
  split at h
  ·cases h
  ·cases ho : opsN m (a + 1 + argN x.toNat) (l.drop (argN x.toNat).toNat) with
   | none => rw [ho] at h; cases h
   | some q =>
    rw [ho] at h
    simp only [Option.map_some, Option.some.injEq] at h
    have := opsN_len m _ _ q ho
    rw [← h]
    simp only [List.length_cons]
    omega
theorem opsV_len (s : List UInt8) : (opsV s).1.length ≤ s.length := by
 unfold opsV
 cases h : opsN s.length 0 s with
 | none => simp
 | some r =>
  cases r with
  | nil => simp
  | cons x r => exact opsN_len _ _ _ _ h
theorem more_len : ∀ (k : Nat) (l : List UInt8) (ts : List (List UInt8)) (b : List UInt8), more k l = some (ts, b) → ts.length ≤ k
 | 0, [], ts, b, h => by simp [more] at h
 | _ + 1, [], ts, b, h => by simp [more] at h
 | 0, x :: l, ts, b, h => by
  simp only [more] at h
  split at h
  ·simp only [Option.some.injEq, Prod.mk.injEq] at h; rw [← h.1]; simp
  ·cases h
 | k + 1, x :: l, ts, b, h => by
  rw [more_succ] at h
  split at h
  ·simp only [Option.some.injEq, Prod.mk.injEq] at h; rw [← h.1]; simp
  ·cases ho : one (x :: l) with
   | none => rw [ho] at h; cases h
   | some p =>
    rw [ho] at h
    simp only [Option.bind_some] at h
    cases hm : more k p.2 with
    | none => rw [hm] at h; cases h
    | some q =>
     obtain ⟨q1, q2⟩ := q
     rw [hm] at h
     simp only [Option.map_some, Option.some.injEq, Prod.mk.injEq] at h
     have := more_len k _ _ _ hm
     rw [← h.1]
     simp only [List.length_cons]
     omega
theorem dsc_len (s : List UInt8) : (dsc s).1.length ≤ 4 := by
 cases s with
 | nil => simp [dsc]
 | cons x l =>
  simp only [dsc]
  split
  ·cases h : more 4 l with
   | none => simp
   | some p =>
    obtain ⟨ts, b⟩ := p
    simp only
    split
    ·exact more_len 4 l ts b h
    ·simp
  ·simp
end Go.Stow
namespace Go.Proofs.YtdpapeledldifaaGreat
open Go Go.AM Go.TM Go.Stow
theorem q254 (l:List InsP) (a:Int) (hl:l.length≤1048576):F254 (l,a)=some (opI l a):=by
 simp only [F254,cndO_d]
 refine (find_loop (fun i=>(l,a,(i:Int))) () l (fun x=>decide (x.1=a)) (fun i=>(i:Int)) rfl ?_ ?_).trans ?_
 ·simp only [Int.lt_irrefl,if_false]
 ·intro i hi
  have i1:(i:Int)<l.length:=by omega
  have i0:(0:Int)≤i:=by omega
  simp (discharger:=omega) only [i1,i0,if_true,decide_true,grdO_t,Int.toNat_natCast,atO_get,wI,decide_eq_true_eq]
  split <;> rfl
 ·unfold opI
  cases l.findIdx? (fun x=>decide (x.1=a)) <;> rfl
theorem q291 (op:Int):F291 op=some (want op):=by
 simp only [F291,cndO_d,cndO_t,bindE_if,bindE_l,bindE_r]
 unfold want
 repeat' split
 all_goals first | rfl | (exfalso;omega)
theorem q246 (c:Cls) (m:Mth) (l:List InsP) (x:InsP) (hp:bndP c.1) (hl:l.length≤1048576):F246 (c,m,l,x)=some (decide (InsOk c.1 m.2.2.2.2.1 l x)):=by
 obtain ⟨c0,c1,c2,c3,c4,c5,c6⟩:=c
 obtain ⟨m0,m1,m2,m3,m4,m5,m6,m7⟩:=m
 obtain ⟨x0,x1,x2⟩:=x
 simp only at hp
 have hI:InsOk c0 m4 l (x0,x1,x2)↔((3≤x1∧x1≤6→x2<m4)∧(14≤x1∧x1≤18→0≤opI l x2)∧(want x1≠0→(entAt c0 x2).1=want x1)):=Iff.rfl
 simp only [F246,q107,q254 _ _ hl,q291,q133 _ _ _ hp,bindO_s,cndO_d]
 by_cases h1:3≤x1∧x1≤6
 ·rw [if_pos h1]
  have h2:¬ (14≤x1∧x1≤18):=by omega
  have h3:want x1=0:=by unfold want;repeat' split <;> omega
  exact sd (by rw [hI,decide_eq_true_iff];simp [h1,h2,h3])
 ·rw [if_neg h1]
  by_cases h2:14≤x1∧x1≤18
  ·rw [if_pos h2]
   have h3:want x1=0:=by unfold want;repeat' split <;> omega
   exact sd (by rw [hI,decide_eq_true_iff];simp [h1,h2,h3])
  ·rw [if_neg h2]
   by_cases h3:want x1=0
   ·rw [if_pos h3]
    exact sd (by rw [hI];simp [h1,h2,h3])
   ·rw [if_neg h3]
    exact sd (by rw [hI,decide_eq_true_iff];simp [h1,h2,h3])
theorem q247 (c:Cls) (m:Mth) (l:List InsP) (t:Trp) (hp:bndP c.1) (hl:l.length≤1048576):F247 (c,m,l,t)=some (decide (TrapOk c.1 m.2.2.2.2.2.1.length l t)):=by
 obtain ⟨c0,c1,c2,c3,c4,c5,c6⟩:=c
 obtain ⟨m0,m1,m2,m3,m4,m5,m6,m7⟩:=m
 obtain ⟨t0,t1,t2,t3⟩:=t
 simp only at hp
 have hI:TrapOk c0 m5.length l (t0,t1,t2,t3)↔(t0<t1∧0≤opI l t0∧(t1=(m5.length:Int)∨0≤opI l t1)∧0≤opI l t2∧(t3=0∨ClsAt c0 t3)):=Iff.rfl
 simp only [F247,q254 _ _ hl,bindO_s,cndO_n,cndO_d]
 by_cases h1:t1≤t0
 ·rw [if_pos h1,bindE_r]
  exact sd (by rw [hI];exact iff_of_false (by simp) fun h=>by omega)
 rw [if_neg h1]
 by_cases h2:opI l t0<0
 ·rw [if_pos h2,bindE_r]
  exact sd (by rw [hI];exact iff_of_false (by simp) fun h=>by omega)
 rw [if_neg h2]
 have hfin:(t1=(m5.length:Int)∨0≤opI l t1)→(bindE (if opI l t2<0 then some (Sum.inr false) else some (Sum.inl ((c0,c1,c2,c3,c4,c5,c6),t0,t1,t2,t3)):Option ((Cls×Int×Int×Int×Int) ⊕ Bool)) fun (x:Cls×Int×Int×Int×Int) =>
   if x.2.2.2.2=0 then some true else bindO (F130 (x.1.1,x.2.2.2.2)) fun y=>some (!decide (y=[])))=some (decide (TrapOk c0 m5.length l (t0,t1,t2,t3))):=by
  intro h3
  by_cases h4:opI l t2<0
  ·rw [if_pos h4,bindE_r]
   exact sd (by rw [hI];exact iff_of_false (by simp) fun h=>by omega)
  rw [if_neg h4,bindE_l]
  simp only [q130 _ _ hp,bindO_s]
  by_cases h5:t3=0
  ·rw [if_pos h5]
   exact sd (by rw [hI];exact iff_of_true rfl ⟨by omega,by omega,h3,by omega,.inl h5⟩)
  ·rw [if_neg h5]
   refine sd ?_
   rw [hI]
   simp only [Bool.not_eq_true',decide_eq_false_iff_not]
   rw [show (¬ clsN c0 t3=[])↔ClsAt c0 t3 from clsN_ne]
   exact ⟨fun h=>⟨by omega,by omega,h3,by omega,.inr h⟩,fun h=>h.2.2.2.2.resolve_left h5⟩
 by_cases h3:t1=(m5.length:Int)
 ·rw [if_pos h3]
  exact hfin (.inl h3)
 ·rw [if_neg h3]
  by_cases h4:opI l t1<0
  ·rw [if_pos h4,bindE_r]
   exact sd (by rw [hI];exact iff_of_false (by simp) fun h=>by omega)
  ·rw [if_neg h4]
   exact hfin (.inr (by omega))
theorem q292 (c:Cls) (l:List Knd) (hp:bndP c.1) (hl:l.length≤1048576):F292 (c,l)=some (decide (KndsOk c.1 l)):=by
 obtain ⟨c0,c1,c2,c3,c4,c5,c6⟩:=c
 simp only at hp
 simp only [F292,cndO_d]
 refine ask_r (fun i=>(l,(i:Int),c0,c1,c2,c3,c4,c5,c6)) () false l.length (fun i=>KndOk c0 (l.getD i (0,0))) rfl ?_ ?_ ?_ ?_
 ·simp only [Int.lt_irrefl,if_false]
 ·intro i hi
  have i1:(i:Int)<l.length:=by omega
  have i0:(0:Int)≤i:=by omega
  simp only [i1,i0,if_true,decide_true,grdO_t,Int.toNat_natCast]
  simp only [atO_gd ((0,0):Knd) hi]
  generalize l.getD i (0,0)=x
  have hK:KndOk c0 x↔((0≤x.1∧x.1≤3)∧(x.1=3→ClsAt c0 x.2)∧(x.1≠3→x.2=0)):=Iff.rfl
  simp only [q107,q130 _ _ hp,bindO_s,cndO_n,cndO_d]
  by_cases h1:0≤x.1∧x.1≤3
  ·rw [if_pos h1]
   by_cases h2:x.1=3
   ·rw [if_pos h2,if_pos h2]
    by_cases h3:clsN c0 x.2=[]
    ·rw [if_pos h3]
     exact .inr ⟨fun h=>clsN_ne.2 ((hK.1 h).2.1 h2) h3,rfl⟩
    ·rw [if_neg h3]
     refine .inl ⟨hK.2 ⟨h1,fun _=>clsN_ne.1 h3,fun h=>absurd h2 h⟩,?_⟩
     simp only [bindE_l]
     rw [wI (by omega) (by omega)];rfl
   ·rw [if_neg h2,if_neg h2]
    by_cases h3:x.2=0
    ·rw [if_pos h3]
     refine .inl ⟨hK.2 ⟨h1,fun h=>absurd h h2,fun _=>h3⟩,?_⟩
     simp only [bindE_l]
     rw [wI (by omega) (by omega)];rfl
    ·rw [if_neg h3]
     exact .inr ⟨fun h=>h3 ((hK.1 h).2.2 h2),rfl⟩
  ·rw [if_neg h1]
   exact .inr ⟨fun h=>h1 (hK.1 h).1,rfl⟩
 ·intro h
  exact sd (iff_of_true rfl ((all_getD (0,0)).2 h))
 ·intro h
  exact sd (iff_of_false (by simp) fun h'=>h ((all_getD (0,0)).1 h'))
theorem q245 (c:Cls) (m:Mth) (hp:bndP c.1) (hm:0≤m.1∧m.1≤255):F245 (c,m)=some (takes c.1 m):=by
 obtain ⟨c0,c1,c2,c3,c4,c5,c6⟩:=c
 obtain ⟨m0,m1,m2,m3,m4,m5,m6,m7⟩:=m
 obtain ⟨hm0,hm1⟩:=hm
 simp only at hp hm0 hm1
 have hd:=dsc_len (txt c0 m2)
 simp only [F245,q131 _ _ hp,n214 _ (txt_len hp _),q108 hm0 hm1 (show (1:Int)≤1 by omega),bindO_s,cndO_d,takes]
 split
 ·rfl
 ·rw [wI (by omega) (by omega)]
theorem q248 (c:Cls) (m:Mth) (l:List InsP) (hp:bndP c.1) (hl:l.length≤1048576) (hm:m.2.2.2.2.2.2.2.length≤1048576) (hk:∀ f∈m.2.2.2.2.2.2.2,bFrm f):F248 (c,m,l)=some (decide (FrmsOk c.1 m l)):=by
 obtain ⟨c0,c1,c2,c3,c4,c5,c6⟩:=c
 obtain ⟨m0,m1,m2,m3,m4,m5,m6,m7⟩:=m
 simp only at hp hm hk
 simp only [F248,cndO_d]
 refine ask_r (fun i=>(l,(i:Int),(c0,c1,c2,c3,c4,c5,c6),m0,m1,m2,m3,m4,m5,m6,m7)) () false m7.length (FrmOk c0 (m0,m1,m2,m3,m4,m5,m6,m7) l) rfl ?_ ?_ ?_ ?_
 ·simp only [Int.lt_irrefl,if_false]
 ·intro i hi
  have i1:(i:Int)<m7.length:=by omega
  have i0:(0:Int)≤i:=by omega
  have hF:FrmOk c0 (m0,m1,m2,m3,m4,m5,m6,m7) l i↔(0≤opI l (m7.getD i (0,[],[])).1∧(0<i→(m7.getD (i - 1) (0,[],[])).1<(m7.getD i (0,[],[])).1)∧((m7.getD i (0,[],[])).2.1.length:Int)=m4∧((m7.getD i (0,[],[])).2.2.length:Int)≤m3∧KndsOk c0 (m7.getD i (0,[],[])).2.1∧KndsOk c0 (m7.getD i (0,[],[])).2.2):=Iff.rfl
  have hb:bFrm (m7.getD i (0,[],[])):=(all_getD (P:=bFrm) (0,[],[])).1 hk i hi
  simp only [i1,i0,if_true,decide_true,grdO_t,Int.toNat_natCast]
  rw [atO_gd (0,[],[]) hi]
  rw [hF]
  generalize m7.getD i (0,[],[])=x at hb
  have z1:F292 ((c0,c1,c2,c3,c4,c5,c6),x.2.1)=some (decide (KndsOk c0 x.2.1)):=q292 (c0,c1,c2,c3,c4,c5,c6) x.2.1 hp hb.1
  have z2:F292 ((c0,c1,c2,c3,c4,c5,c6),x.2.2)=some (decide (KndsOk c0 x.2.2)):=q292 (c0,c1,c2,c3,c4,c5,c6) x.2.2 hp hb.2
  simp only [q254 _ _ hl,z1,z2,bindO_s,cndO_n,cndO_d]
  by_cases h1:opI l x.1<0
  ·rw [if_pos h1]
   exact .inr ⟨fun h=>by omega,rfl⟩
  rw [if_neg h1]
  have hrest:(0<i→(m7.getD (i - 1) (0,[],[])).1<x.1)→∀ F:Option ((List InsP×Int×Cls×Mth) ⊕ ((List InsP×Int×Cls×Mth) ⊕ (Unit ⊕ Bool)))→Option ((List InsP×Int×Cls×Mth) ⊕ (Unit ⊕ Bool)),F (some (.inr (.inr (.inr false))))=some (.inr (.inr false)) →
    F (some (.inl (l,(i:Int),(c0,c1,c2,c3,c4,c5,c6),m0,m1,m2,m3,m4,m5,m6,m7)))=some (.inl (l,((i+1:Nat):Int),(c0,c1,c2,c3,c4,c5,c6),m0,m1,m2,m3,m4,m5,m6,m7)) →
    ((0≤opI l x.1∧(0<i→(m7.getD (i - 1) (0,[],[])).1<x.1)∧(x.2.1.length:Int)=m4∧(x.2.2.length:Int)≤m3∧KndsOk c0 x.2.1∧KndsOk c0 x.2.2) ∧
     F (if (x.2.1.length:Int)=m4 then if m3<(x.2.2.length:Int) then some (.inr (.inr (.inr false))) else if KndsOk c0 x.2.1 then if KndsOk c0 x.2.2 then some (.inl (l,(i:Int),(c0,c1,c2,c3,c4,c5,c6),m0,m1,m2,m3,m4,m5,m6,m7)) else some (.inr (.inr (.inr false))) else some (.inr (.inr (.inr false))) else some (.inr (.inr (.inr false))))=some (.inl (l,((i+1:Nat):Int),(c0,c1,c2,c3,c4,c5,c6),m0,m1,m2,m3,m4,m5,m6,m7))) ∨
    (¬ (0≤opI l x.1∧(0<i→(m7.getD (i - 1) (0,[],[])).1<x.1)∧(x.2.1.length:Int)=m4∧(x.2.2.length:Int)≤m3∧KndsOk c0 x.2.1∧KndsOk c0 x.2.2) ∧
     F (if (x.2.1.length:Int)=m4 then if m3<(x.2.2.length:Int) then some (.inr (.inr (.inr false))) else if KndsOk c0 x.2.1 then if KndsOk c0 x.2.2 then some (.inl (l,(i:Int),(c0,c1,c2,c3,c4,c5,c6),m0,m1,m2,m3,m4,m5,m6,m7)) else some (.inr (.inr (.inr false))) else some (.inr (.inr (.inr false))) else some (.inr (.inr (.inr false))))=some (.inr (.inr false))):=by
   intro h2 F f1 f2
   by_cases h3:(x.2.1.length:Int)=m4
   ·rw [if_pos h3]
    by_cases h4:m3<(x.2.2.length:Int)
    ·rw [if_pos h4];exact .inr ⟨fun h=>by omega,f1⟩
    ·rw [if_neg h4]
     by_cases h5:KndsOk c0 x.2.1
     ·rw [if_pos h5]
      by_cases h6:KndsOk c0 x.2.2
      ·rw [if_pos h6];exact .inl ⟨⟨by omega,h2,h3,by omega,h5,h6⟩,f2⟩
      ·rw [if_neg h6];exact .inr ⟨fun h=>h6 h.2.2.2.2.2,f1⟩
     ·rw [if_neg h5];exact .inr ⟨fun h=>h5 h.2.2.2.2.1,f1⟩
   ·rw [if_neg h3];exact .inr ⟨fun h=>h3 h.2.2.1,f1⟩
  by_cases h2:(0:Int)<i
  ·have j1:((i:Int) - 1).toNat=i - 1:=by omega
   have j0:(0:Int)≤(i:Int) - 1:=by omega
   have jl:i - 1<m7.length:=by omega
   rw [if_pos h2]
   simp (discharger:=omega) only [wI,j0,decide_true,grdO_t,j1]
   rw [atO_gd (0,[],[]) jl]
   by_cases h3:x.1≤(m7.getD (i - 1) (0,[],[])).1
   ·rw [if_pos h3]
    exact .inr ⟨fun h=>by have:=h.2.1 (by omega);omega,rfl⟩
   ·rw [if_neg h3]
    refine hrest (fun _=>by omega) (bindE · _) rfl ?_
    simp only [bindE_l]
    rw [wI (by omega) (by omega)];rfl
  ·rw [if_neg h2]
   refine hrest (fun h=>absurd h (by omega)) (bindE · _) rfl ?_
   simp only [bindE_l]
   rw [wI (by omega) (by omega)];rfl
 ·intro h
  exact sd (iff_of_true rfl h)
 ·intro h
  exact sd (iff_of_false (by simp) h)
end Go.Proofs.YtdpapeledldifaaGreat
end
section
namespace Go.Proofs.YtdpapeledldifaaGreat
open Go Go.AM Go.TM Go.Stow
theorem q178 (c : Cls) (m : Mth) (hp : bndP c.1) (hm : 0 ≤ m.1 ∧ m.1 ≤ 255) (hb : bMth m) : F178 (c, m) = some (decide (¬ has m.1 8 → BodyOk c.1 m)) := by
 have z245 := q245 c m hp hm
 obtain ⟨c0, c1, c2, c3, c4, c5, c6⟩ := c
 obtain ⟨m0, m1, m2, m3, m4, m5, m6, m7⟩ := m
 obtain ⟨hm0, hm1⟩ := hm
 obtain ⟨b1, b2, b3, b4⟩ := hb
 simp only at hp hm0 hm1 b1 b2 b3 b4 z245
 have hlen := opsV_len m5
 have hB : BodyOk c0 (m0, m1, m2, m3, m4, m5, m6, m7) ↔ ((opsV m5).2 = true ∧ m3 ≤ 8 ∧ (takes c0 (m0, m1, m2, m3, m4, m5, m6, m7) ≤ m4 ∧ m4 ≤ 8) ∧ (∀ x ∈ (opsV m5).1, InsOk c0 m4 (opsV m5).1 x) ∧ (∀ t ∈ m6, TrapOk c0 m5.length (opsV m5).1 t) ∧ FrmsOk c0 (m0, m1, m2, m3, m4, m5, m6, m7) (opsV m5).1) := Iff.rfl
 simp only [F178, q108 hm0 hm1 (show (1 : Int) ≤ 8 by omega), q193 _ b1, bindO_s, cndO_d, cndO_n]
 by_cases h0 : has m0 8
 ·rw [if_pos h0]
  exact sd (iff_of_true rfl fun h => absurd h0 h)
 rw [if_neg h0]
 have hgo : ∀ b : Bool, (b = true ↔ BodyOk c0 (m0, m1, m2, m3, m4, m5, m6, m7)) → some b = some (decide (¬ has m0 8 → BodyOk c0 (m0, m1, m2, m3, m4, m5, m6, m7))) := fun b hb => sd (hb.trans ⟨fun h _ => h, fun h => h h0⟩)
 generalize hv : opsV m5 = v at hlen hB
 obtain ⟨ops, ok⟩ := v
 simp only at hlen hB ⊢
 have hol : ops.length ≤ 1048576 := by omega
 cases ok with
 | false =>
  rw [cndO_f, bindE_r]
  exact hgo false (by rw [hB]; exact iff_of_false (by simp) fun h => by cases h.1)
 | true =>
  rw [cndO_t]
  by_cases h1 : 8 < m3
  ·rw [if_pos h1, bindE_r]
   exact hgo false (by rw [hB]; exact iff_of_false (by simp) fun h => by omega)
  rw [if_neg h1, z245, bindO_s]
  simp only [eq_self, decide_true, grdO_t, seqU_s, q107, bindO_s, cndO_d]
  by_cases h2 : takes c0 (m0, m1, m2, m3, m4, m5, m6, m7) ≤ m4 ∧ m4 ≤ 8
  ·rw [if_pos h2, bindE_l]
   simp only
   refine ask_r (fun i => (ops, (i : Int), (c0, c1, c2, c3, c4, c5, c6), m0, m1, m2, m3, m4, m5, m6, m7)) (ops, (c0, c1, c2, c3, c4, c5, c6), m0, m1, m2, m3, m4, m5, m6, m7) false ops.length (fun i => InsOk c0 m4 ops (ops.getD i (0, 0, 0))) rfl ?_ ?_ ?_ ?_
   ·simp only [Int.lt_irrefl, if_false]
   ·intro i hi
    have i1 : (i : Int) < ops.length := by omega
    have i0 : (0 : Int) ≤ i := by omega
    simp only [i1, i0, if_true, decide_true, Bool.and_self, grdO_t, Int.toNat_natCast]
    rw [atO_gd (0, 0, 0) hi]
    generalize ops.getD i (0, 0, 0) = x
    have z := q246 (c0, c1, c2, c3, c4, c5, c6) (m0, m1, m2, m3, m4, m5, m6, m7) ops x hp hol
    rw [show ((x.1, x.2.1, x.2.2) : InsP) = x from rfl, z]
    simp only [bindO_s, cndO_d]
    by_cases h : InsOk c0 m4 ops x
    ·rw [if_pos h, wI (by omega) (by omega)]; exact .inl ⟨h, rfl⟩
    ·rw [if_neg h]; exact .inr ⟨h, rfl⟩
   ·intro hins
    have hins := (all_getD (P := fun x => InsOk c0 m4 ops x) (0, 0, 0)).2 hins
    simp only
    refine ask_r (fun i => (ops, (i : Int), (c0, c1, c2, c3, c4, c5, c6), m0, m1, m2, m3, m4, m5, m6, m7)) (ops, (c0, c1, c2, c3, c4, c5, c6), m0, m1, m2, m3, m4, m5, m6, m7) false m6.length (fun i => TrapOk c0 m5.length ops (m6.getD i (0, 0, 0, 0))) rfl ?_ ?_ ?_ ?_
    ·simp only [Int.lt_irrefl, if_false]
    ·intro i hi
     have i1 : (i : Int) < m6.length := by omega
     have i0 : (0 : Int) ≤ i := by omega
     simp only [i1, i0, if_true, decide_true, Bool.and_self, grdO_t, Int.toNat_natCast]
     rw [atO_gd (0, 0, 0, 0) hi]
     generalize m6.getD i (0, 0, 0, 0) = x
     have z := q247 (c0, c1, c2, c3, c4, c5, c6) (m0, m1, m2, m3, m4, m5, m6, m7) ops x hp hol
     rw [show ((x.1, x.2.1, x.2.2.1, x.2.2.2) : Trp) = x from rfl, z]
     simp only [bindO_s, cndO_d]
     by_cases h : TrapOk c0 m5.length ops x
     ·rw [if_pos h, wI (by omega) (by omega)]; exact .inl ⟨h, rfl⟩
     ·rw [if_neg h]; exact .inr ⟨h, rfl⟩
    ·intro htr
     have htr := (all_getD (P := fun x => TrapOk c0 m5.length ops x) (0, 0, 0, 0)).2 htr
     have z := q248 (c0, c1, c2, c3, c4, c5, c6) (m0, m1, m2, m3, m4, m5, m6, m7) ops hp hol b3 b4
     simp only
     rw [z, bindO_s]
     refine hgo _ ?_
     rw [hB, decide_eq_true_iff]
     exact ⟨fun h => ⟨rfl, by omega, h2, hins, htr, h⟩, fun h => h.2.2.2.2.2⟩
    ·intro htr
     exact hgo false (by rw [hB]; exact iff_of_false (by simp) fun h => htr ((all_getD (P := fun x => TrapOk c0 m5.length ops x) (0, 0, 0, 0)).1 h.2.2.2.2.1))
   ·intro hins
    exact hgo false (by rw [hB]; exact iff_of_false (by simp) fun h => hins ((all_getD (P := fun x => InsOk c0 m4 ops x) (0, 0, 0)).1 h.2.2.2.1))
  ·rw [if_neg h2, bindE_r]
   exact hgo false (by rw [hB]; exact iff_of_false (by simp) fun h => h2 h.2.2.1)
end Go.Proofs.YtdpapeledldifaaGreat
end
section
namespace Go.Proofs.YtdpapeledldifaaGreat
open Go Go.AM Go.TM Go.Stow
end Go.Proofs.YtdpapeledldifaaGreat
end
section
namespace Go.Stow
theorem chkV_2 {c:ClsP} (h:¬ poolC c.1 c.1.length 0=0):chkV c=2:=by unfold chkV;rw [if_pos h]
theorem chkV_3 {c:ClsP} (h1:poolC c.1 c.1.length 0=0) (h2:¬ HeadOk c):chkV c=3:=by
 unfold chkV;rw [if_neg (show ¬ poolC c.1 c.1.length 0≠0 from fun h=>h h1),if_pos h2]
theorem chkV_4 {c:ClsP} (h1:poolC c.1 c.1.length 0=0) (h2:HeadOk c) (h3:¬ FldsOk c):chkV c=4:=by
 unfold chkV;rw [if_neg (show ¬ poolC c.1 c.1.length 0≠0 from fun h=>h h1),if_neg (show ¬ ¬ HeadOk c from fun h=>h h2),if_pos h3]
theorem chkV_5 {c:ClsP} (h1:poolC c.1 c.1.length 0=0) (h2:HeadOk c) (h3:FldsOk c) (h4:¬ MthsOk c):chkV c=5:=by
 unfold chkV;rw [if_neg (show ¬ poolC c.1 c.1.length 0≠0 from fun h=>h h1),if_neg (show ¬ ¬ HeadOk c from fun h=>h h2),if_neg (show ¬ ¬ FldsOk c from fun h=>h h3),if_pos h4]
theorem chkV_6 {c:ClsP} (h1:poolC c.1 c.1.length 0=0) (h2:HeadOk c) (h3:FldsOk c) (h4:MthsOk c) (h5:¬ BodsOk c):chkV c=6:=by
 unfold chkV;rw [if_neg (show ¬ poolC c.1 c.1.length 0≠0 from fun h=>h h1),if_neg (show ¬ ¬ HeadOk c from fun h=>h h2),if_neg (show ¬ ¬ FldsOk c from fun h=>h h3),if_neg (show ¬ ¬ MthsOk c from fun h=>h h4),if_pos h5]
theorem chkV_0 {c:ClsP} (h1:poolC c.1 c.1.length 0=0) (h2:HeadOk c) (h3:FldsOk c) (h4:MthsOk c) (h5:BodsOk c):chkV c=0:=by
 unfold chkV;rw [if_neg (show ¬ poolC c.1 c.1.length 0≠0 from fun h=>h h1),if_neg (show ¬ ¬ HeadOk c from fun h=>h h2),if_neg (show ¬ ¬ FldsOk c from fun h=>h h3),if_neg (show ¬ ¬ MthsOk c from fun h=>h h4),if_neg (show ¬ ¬ BodsOk c from fun h=>h h5)]
end Go.Stow
namespace Go.Proofs.YtdpapeledldifaaGreat
open Go Go.AM Go.TM Go.Stow
theorem fit_bnd {c:Cls} (h:fCls c):bndP c.1:=by
 obtain ⟨⟨f1,_⟩,h1,_⟩:=h
 exact ⟨by omega,fun x hx=>by have:=(h1 x hx).2.1;omega⟩
theorem chk88 (c:Cls) (h:fCls c):F88 c=some (chkV c):=by
 have hp:=fit_bnd h
 have hb:=fit_b h
 obtain ⟨⟨f1,f2,f3,f4⟩,_,hfl,_,_,_,_,hms⟩:=h
 have hmf:∀ m∈c.2.2.2.2.2.2,0≤m.1∧m.1≤255:=fun m hm=>(hms m hm).1
 have z15:=q15 c.1 hp f1
 have z175:=q175 c hp hfl (by omega)
 have z176:=q176 c hp hfl (by omega)
 have z177:=q177 c hp hfl (by omega) hmf
 have hbm:=hb.2.2.2.2
 obtain ⟨c0,c1,c2,c3,c4,c5,c6⟩:=c
 simp only at f1 f2 f3 f4 hfl hmf hp z15 hbm
 simp only [F88,z15,z175,z176,z177,bindO_s,cndO_n,cndO_d]
 by_cases h1:poolC c0 c0.length 0=0
 ·rw [if_pos h1]
  by_cases h2:HeadOk (c0,c1,c2,c3,c4,c5,c6)
  ·rw [if_pos h2]
   by_cases h3:FldsOk (c0,c1,c2,c3,c4,c5,c6)
   ·rw [if_pos h3]
    by_cases h4:MthsOk (c0,c1,c2,c3,c4,c5,c6)
    ·rw [if_pos h4]
     refine ask_r (fun i=>((i:Int),c0,c1,c2,c3,c4,c5,c6)) () 6 c6.length (fun i=>¬ has (c6.getD i mth0).1 8→BodyOk c0 (c6.getD i mth0)) rfl ?_ ?_ ?_ ?_
     ·simp only [Int.lt_irrefl,if_false]
     ·intro i hi
      have i1:(i:Int)<c6.length:=by omega
      have i0:(0:Int)≤i:=by omega
      simp only [i1,i0,if_true,decide_true,grdO_t,Int.toNat_natCast]
      rw [atO_gd mth0 hi]
      have hm1:=(all_getD (P:=fun m:Mth=>0≤m.1∧m.1≤255) mth0).1 hmf i hi
      have hm2:=(all_getD (P:=bMth) mth0).1 hbm i hi
      generalize c6.getD i mth0=x at hm1 hm2
      have z:F178 ((c0,c1,c2,c3,c4,c5,c6),x.1,x.2.1,x.2.2.1,x.2.2.2.1,x.2.2.2.2.1,x.2.2.2.2.2.1,x.2.2.2.2.2.2.1,x.2.2.2.2.2.2.2)=some (decide (¬ has x.1 8→BodyOk c0 x)):=q178 (c0,c1,c2,c3,c4,c5,c6) x hp hm1 hm2
      rw [z]
      simp only [bindO_s,cndO_d]
      by_cases e:¬ has x.1 8→BodyOk c0 x
      ·rw [if_pos e,wI (by omega) (by omega)];exact .inl ⟨e,rfl⟩
      ·rw [if_neg e];exact .inr ⟨e,rfl⟩
     ·intro hall
      rw [chkV_0 h1 h2 h3 h4 ((all_getD (P:=fun m:Mth=>¬ has m.1 8→BodyOk c0 m) mth0).2 hall)]
     ·intro hall
      rw [chkV_6 h1 h2 h3 h4 fun h:BodsOk _=>hall ((all_getD (P:=fun m:Mth=>¬ has m.1 8→BodyOk c0 m) mth0).1 h)]
    ·rw [if_neg h4,chkV_5 h1 h2 h3 h4]
   ·rw [if_neg h3,chkV_4 h1 h2 h3]
  ·rw [if_neg h2,chkV_3 h1 h2]
 ·rw [if_neg h1,chkV_2 h1]
theorem put_fit {c:Cls} (h:put c≠[]):fCls c:=by
 refine Classical.byContradiction fun hn=>h (put_no fun hh=>hn hh.1)
end Go.Proofs.YtdpapeledldifaaGreat
end
section
namespace Go.Proofs.YtdpapeledldifaaGreat
open Go Go.AM Go.TM Go.Stow
set_option maxRecDepth 10000
theorem Bu.cls {K:Nat} {p:List Cst} {f n s:Int} {fa:List Int} {fi:List (Int×Int×Int)} {ms:List Mth} {bad:Bool} (h:Bu K (p,f,n,s,fa,fi,ms,bad)) (hK:K≤1000000):bCls (p,f,n,s,fa,fi,ms):=by
 obtain ⟨⟨h1,h2⟩,h3,h4,h5,h6⟩:=h
 simp only at h1 h2 h3 h4 h5 h6
 refine ⟨⟨by simp only;omega,fun x hx=>?_⟩,by simp only;omega,by simp only;omega,by simp only;omega,fun m hm=>?_⟩
 ·have:=h2 x hx
  unfold bCst;omega
 ·obtain ⟨k1,k2,k3,k4⟩:=h6 m hm
  refine ⟨by omega,by omega,by omega,fun f hf=>?_⟩
  have:=k4 f hf
  exact ⟨by unfold bKnds;omega,by unfold bKnds;omega⟩
theorem t218 {s:List UInt8}:Tot (F218 s) fun y=>y.1=true→put y.2≠[]:=by
 unfold F218
 refine Tot.bindE (fun z=>z=(s,[],0,0,0,[],[],[])∧1≤s.length∧s.length≤2500) ?_ ?_
 ·refine Tot.cnd (fun _=>Tot.ret (by simp)) fun h=>Tot.cnd (fun _=>Tot.ret (by simp)) fun h1=>?_
  simp only [decide_eq_false_iff_not] at h h1
  have hw:IntKind.wrap .i64 ((s.length:Int) - 1)=(s.length:Int) - 1:=wrapI (by omega) (by omega)
  simp only [hw]
  exact Tot.grd (by simp;omega) (Tot.at (by omega) fun x _=>Tot.cnd (fun _=>Tot.ret (by simp)) fun _=>Tot.ret ⟨rfl,by omega,by omega⟩)
 rintro _ ⟨rfl,h1,h2⟩
 refine Tot.bind (t278 (by omega) (by omega)) ?_
 rintro y ⟨hy1,hy2,-,hy3⟩
 have hw:IntKind.wrap .i64 ((y.length:Int) - 1)=(y.length:Int) - 1:=wrapI (by omega) (by omega)
 refine Tot.bindE (fun z=>∃ b,z=(([],0,0,0,[],[],[]),b)∧Bu 200000 b)
  (Tot.loop (fun z=>∃ i b,z=(y,i,([],0,0,0,[],[],[]),b)∧0≤i∧i≤(y.length:Int)∧Bu (60*i.toNat) b) (fun z=>y.length - z.2.1.toNat) ?_ ⟨0,_,rfl,by simp,by simp,⟨by simp,by simp⟩,by simp,by simp,by simp,by simp⟩) ?_
 ·rintro _ ⟨i,⟨p,f,n,s',fa,fi,ms,bad⟩,rfl,i0,i1,hb⟩
  refine Tot.bindE (fun z=>z=(y,i,([],0,0,0,[],[],[]),p,f,n,s',fa,fi,ms,bad)∧i<(y.length:Int)) ?_ ?_
  ·refine Tot.cnd (fun h=>Tot.cnd (fun _=>?_) fun _=>Tot.ret ⟨_,rfl,hb.mono (by omega)⟩) fun _=>Tot.ret ⟨_,rfl,hb.mono (by omega)⟩
   simp only [hw,decide_eq_true_eq] at h
   exact Tot.ret ⟨rfl,by omega⟩
  rintro _ ⟨rfl,hi⟩
  obtain ⟨x,ex⟩:∃ x,y[i.toNat]? = some x:=⟨y[i.toNat],List.getElem?_eq_getElem (by omega)⟩
  have hx:=hy3 x (List.mem_of_getElem? ex)
  refine Tot.grd (by simp;omega) (Tot.at' ex (Tot.bind (t279 (by omega) hb (by omega)) ?_))
  rintro ⟨p',f',n',s1,fa',fi',ms',bad'⟩ hb'
  have hw':IntKind.wrap .i64 (i+1)=i+1:=wrapI (by omega) (by omega)
  show Tot (some (Sum.inl (y,IntKind.wrap .i64 (i+1),(([],0,0,0,[],[],[]):Cls),p',f',n',s1,fa',fi',ms',bad'))) _
  rw [hw']
  exact Tot.ret ⟨⟨_,_,rfl,by omega,by omega,hb'.mono (by omega)⟩,by show y.length - (i+1).toNat<y.length - i.toNat;omega⟩
 rintro _ ⟨⟨p,f,n,s',fa,fi,ms,bad⟩,rfl,hb⟩
 have hc:=hb.cls (by omega)
 refine Tot.bindE (fun z=>z=(([],0,0,0,[],[],[]),p,f,n,s',fa,fi,ms,bad)∧put (p,f,n,s',fa,fi,ms)≠[]) ?_ ?_
 ·refine Tot.cnd (fun _=>Tot.ret (by simp)) fun _=>?_
  rw [put22 _ hc,bindO_s]
  refine Tot.cnd (fun _=>Tot.ret (by simp)) fun h=>?_
  simp only [decide_eq_false_iff_not] at h
  rw [chk88 _ (put_fit h),bindO_s]
  exact Tot.cnd (fun _=>Tot.ret (by simp)) fun _=>Tot.ret ⟨rfl,h⟩
 rintro _ ⟨rfl,h⟩
 exact Tot.ret fun _=>h
end Go.Proofs.YtdpapeledldifaaGreat
end
section
namespace Go.Proofs.YtdpapeledldifaaGreat
open Go Go.AM Go.TM
set_option maxRecDepth 10000
theorem t276 {v1:Int} {g:List UInt8×List UInt8×List UInt8×Int×List UInt8} {r:List UInt8×Int} {K:Nat} {c:Nat} (hv11:(-9223372036854775808:Int)≤v1) (hv12:v1≤(9223372036854775807:Int)) (hg:Gt K g) (hr:Rd c r) (hK:K≤800000) (hc:c≤800000):Tot (F276 (v1,g,r)) fun y=>Gt (K+1200) y.1∧Rd (c+3) y.2:=by
 obtain ⟨o1,o2,o3,o4,o5⟩:=g
 have ko1:List.length o1≤K+0:=hg.1
 have ko2:List.length o2≤K+0:=hg.2.1
 have ko3:List.length o3≤K+0:=hg.2.2.1
 have ko5:List.length o5≤3:=hg.2.2.2.2
 obtain ⟨o0,o11⟩:=r
 unfold F276
 refine Tot.bind (t119b (m:=3) hr (by omega) (by simp) (by decide)) ?_
 rintro ⟨y,y1,y2⟩ ⟨(ky:List.length y≤3),hr1⟩
 refine Tot.grd (by simp <;> omega) ?_
 refine Tot.grd (by simp <;> omega) ?_
 refine Tot.bindE (fun y=>((-9223372036854775808:Int)≤y.1∧y.1≤(9223372036854775807:Int))∧List.length y.2.1≤5∧List.length y.2.2.1≤10∧Gt (K+0) y.2.2.2.1∧Rd (c+1) y.2.2.2.2) ?_ ?_
 ·refine Tot.cnd (fun c2=>?_) (fun c2=>?_)
  ·exact Tot.ret ⟨⟨hv11,hv12⟩,(by first | omega | simp <;> omega),(by first | omega | simp <;> omega),hg.mono (by omega),hr1.mono (by omega)⟩
  ·exact Tot.ret ⟨⟨hv11,hv12⟩,(by first | omega | simp <;> omega),(by first | omega | simp <;> omega),hg.mono (by omega),hr1.mono (by omega)⟩
 rintro ⟨v11,v4,v5,⟨o12,o21,o31,o41,o51⟩,o01,o13⟩ ⟨i3,(kv4:List.length v4≤5),(kv5:List.length v5≤10),hg4,hr5⟩
 have ko12:List.length o12≤K+0:=hg4.1
 have ko21:List.length o21≤K+0:=hg4.2.1
 have ko31:List.length o31≤K+0:=hg4.2.2.1
 have ko51:List.length o51≤3:=hg4.2.2.2.2
 refine Tot.bind (t274 (wrap_ran _).1 (wrap_ran _).2) ?_
 intro y3 (ky3:List.length y3≤25)
 refine Tot.grd (by simp <;> omega) ?_
 refine Tot.bind (t273 (by first | omega | simp <;> omega) hg4 hr5 (by omega) (by omega)) ?_
 rintro ⟨⟨y4,y5,y6,y7,y8⟩,y9,x⟩ ⟨hg6,hr7⟩
 have ky4:List.length y4≤K+110:=hg6.1
 have ky5:List.length y5≤K+110:=hg6.2.1
 have ky6:List.length y6≤K+110:=hg6.2.2.1
 have ky8:List.length y8≤3:=hg6.2.2.2.2
 refine Tot.bind (t274 i3.1 i3.2) ?_
 intro y10 (ky10:List.length y10≤25)
 refine Tot.seq (by repeat first | exact Tot.ret trivial | refine Tot.seq ?_ ?_ | refine Tot.grd (by first | decide | simp <;> omega) ?_) ?_
 refine Tot.grd (by simp <;> omega) ?_
 refine Tot.grd (by simp <;> omega) ?_
 refine Tot.bind (t274 hg4.2.2.2.1.1 hg4.2.2.2.1.2) ?_
 intro y11 (ky11:List.length y11≤25)
 refine Tot.seq (by repeat first | exact Tot.ret trivial | refine Tot.seq ?_ ?_ | refine Tot.grd (by first | decide | simp <;> omega) ?_) ?_
 refine Tot.grd (by simp <;> omega) ?_
 refine Tot.grd (by simp <;> omega) ?_
 refine Tot.bind (t274 hg6.2.2.2.1.1 hg6.2.2.2.1.2) ?_
 intro y12 (ky12:List.length y12≤25)
 refine Tot.seq (by repeat first | exact Tot.ret trivial | refine Tot.seq ?_ ?_ | refine Tot.grd (by first | decide | simp <;> omega) ?_) ?_
 refine Tot.grd (by simp <;> omega) ?_
 refine Tot.grd (by simp <;> omega) ?_
 refine Tot.grd (by simp <;> omega) ?_
 refine Tot.grd (by simp <;> omega) ?_
 refine Tot.bind (t308 (⟨(by show List.length _≤_;first | omega | simp <;> omega),(by show List.length _≤_;first | omega | simp <;> omega),(by show List.length _≤_;first | omega | simp <;> omega),⟨hg6.2.2.2.1.1,hg6.2.2.2.1.2⟩,(by show List.length _≤_;first | omega | simp <;> omega)⟩:Gt (K+310) (y4,[(116:UInt8),(114:UInt8),(97:UInt8),(112:UInt8),(32:UInt8)]++y10++[(32:UInt8)]++y11++[(32:UInt8)]++y12++[(32:UInt8)]++v4++[(10:UInt8)],y6,y7,y8)) hr7 (by omega) (by omega)) ?_
 rintro ⟨y13,⟨y14,y15,y16,y17,y18⟩,x1,x2⟩ ⟨(ky13:List.length y13≤20),hg8,hr9⟩
 have ky14:List.length y14≤K+310:=hg8.1
 have ky15:List.length y15≤K+310:=hg8.2.1
 have ky16:List.length y16≤K+310:=hg8.2.2.1
 have ky18:List.length y18≤3:=hg8.2.2.2.2
 refine Tot.bind (t307 (by first | omega | simp <;> omega) (by first | omega | simp <;> omega) hg8 hr9 (by omega) (by omega)) ?_
 rintro ⟨⟨y19,y20,y21,y22,y23⟩,y24,x3⟩ ⟨hg10,hr11⟩
 have ky19:List.length y19≤K+420:=hg10.1
 have ky20:List.length y20≤K+420:=hg10.2.1
 have ky21:List.length y21≤K+420:=hg10.2.2.1
 have ky23:List.length y23≤3:=hg10.2.2.2.2
 refine Tot.bind (t273 (by first | omega | simp <;> omega) hg10 hr11 (by omega) (by omega)) ?_
 rintro ⟨⟨y25,y26,y27,y28,y29⟩,y30,x4⟩ ⟨hg12,hr13⟩
 have ky25:List.length y25≤K+530:=hg12.1
 have ky26:List.length y26≤K+530:=hg12.2.1
 have ky27:List.length y27≤K+530:=hg12.2.2.1
 have ky29:List.length y29≤3:=hg12.2.2.2.2
 refine Tot.bind (t273 (by first | omega | simp <;> omega) hg12 hr13 (by omega) (by omega)) ?_
 rintro ⟨⟨y31,y32,y33,y34,y35⟩,y36,x5⟩ ⟨hg14,hr15⟩
 have ky31:List.length y31≤K+640:=hg14.1
 have ky32:List.length y32≤K+640:=hg14.2.1
 have ky33:List.length y33≤K+640:=hg14.2.2.1
 have ky35:List.length y35≤3:=hg14.2.2.2.2
 refine Tot.bind (t273 (by first | omega | simp <;> omega) hg14 hr15 (by omega) (by omega)) ?_
 rintro ⟨⟨y37,y38,y39,y40,y41⟩,y42,x6⟩ ⟨hg16,hr17⟩
 have ky37:List.length y37≤K+750:=hg16.1
 have ky38:List.length y38≤K+750:=hg16.2.1
 have ky39:List.length y39≤K+750:=hg16.2.2.1
 have ky41:List.length y41≤3:=hg16.2.2.2.2
 refine Tot.bind (t308 hg16 hr17 (by omega) (by omega)) ?_
 rintro ⟨y43,⟨y44,y45,y46,y47,y48⟩,x7,x8⟩ ⟨(ky43:List.length y43≤20),hg18,hr19⟩
 have ky44:List.length y44≤K+750:=hg18.1
 have ky45:List.length y45≤K+750:=hg18.2.1
 have ky46:List.length y46≤K+750:=hg18.2.2.1
 have ky48:List.length y48≤3:=hg18.2.2.2.2
 refine Tot.bind (t307 (by first | omega | simp <;> omega) (by first | omega | simp <;> omega) hg18 hr19 (by omega) (by omega)) ?_
 rintro ⟨⟨y49,y50,y51,y52,y53⟩,y54,x9⟩ ⟨hg20,hr21⟩
 have ky49:List.length y49≤K+860:=hg20.1
 have ky50:List.length y50≤K+860:=hg20.2.1
 have ky51:List.length y51≤K+860:=hg20.2.2.1
 have ky53:List.length y53≤3:=hg20.2.2.2.2
 exact Tot.ret ⟨hg20.mono (by omega),hr21.mono (by omega)⟩
theorem t275 {g:List UInt8×List UInt8×List UInt8×Int×List UInt8} {r:List UInt8×Int} {K:Nat} {c:Nat} (hg:Gt K g) (hr:Rd c r) (hK:K≤800000) (hc:c≤800000):Tot (F275 (g,r)) fun y=>Gt (K+2000) y.1∧Rd (c+40) y.2:=by
 obtain ⟨o1,o2,o3,o4,o5⟩:=g
 obtain ⟨o0,o11⟩:=r
 unfold F275
 refine Tot.bind (t51 hr (by omega)) ?_
 rintro ⟨y,y1,y2⟩ ⟨(a2:(0:Int)≤y),(b3:(1:Int)≤(14:Int)→y<(14:Int)),-,hr1⟩
 refine Tot.bindE (fun y=>Gt (K+1200) y.1∧Rd (c+21) y.2) ?_ ?_
 ·refine Tot.bindE (fun y=>Gt (K+0) y.2.2.1∧Rd (c+1) y.2.2.2) ?_ ?_
  ·refine Tot.cnd (fun c4=>?_) (fun c4=>?_)
   ·exact Tot.ret ⟨hg.mono (by omega),hr1.mono (by omega)⟩
   ·exact Tot.ret ⟨hg.mono (by omega),hr1.mono (by omega)⟩
  rintro ⟨v8,v11,⟨o12,o21,o31,o41,o51⟩,o01,o13⟩ ⟨hg5,hr6⟩
  refine Tot.cnd (fun c7=>?_) (fun c7=>?_)
  ·refine Tot.bind (t303 hg5 hr6 (by omega) (by omega)) ?_
   rintro ⟨⟨y3,y4,y5,y6,y7⟩,y8,x⟩ ⟨hg8,hr9⟩
   refine Tot.bind (t273 (by first | omega | simp <;> omega) hg8 hr9 (by omega) (by omega)) ?_
   rintro ⟨⟨y9,y10,y11,y12,y13⟩,y14,x1⟩ ⟨hg10,hr11⟩
   exact Tot.ret ⟨hg10.mono (by omega),hr11.mono (by omega)⟩
  ·refine Tot.bindE (fun y=>Gt (K+0) y.2.2.1∧Rd (c+1) y.2.2.2) ?_ ?_
   ·refine Tot.cnd (fun c12=>?_) (fun c12=>?_)
    ·exact Tot.ret ⟨hg5.mono (by omega),hr6.mono (by omega)⟩
    ·refine Tot.cnd (fun c13=>?_) (fun c13=>?_)
     ·exact Tot.ret ⟨hg5.mono (by omega),hr6.mono (by omega)⟩
     ·exact Tot.ret ⟨hg5.mono (by omega),hr6.mono (by omega)⟩
   rintro ⟨v81,v18,⟨o14,o22,o32,o42,o52⟩,o02,o15⟩ ⟨hg14,hr15⟩
   refine Tot.cnd (fun c16=>?_) (fun c16=>?_)
   ·refine Tot.bind (t304 hg14 hr15 (by omega) (by omega)) ?_
    rintro ⟨⟨y3,y4,y5,y6,y7⟩,y8,x⟩ ⟨hg17,hr18⟩
    refine Tot.bind (t277 hg17 hr18 (by omega) (by omega)) ?_
    rintro ⟨y9,⟨y10,y11,y12,y13,y14⟩,x1,x2⟩ ⟨(ky9:List.length y9≤25),hg19,hr20⟩
    refine Tot.grd (by simp <;> omega) ?_
    refine Tot.bind (t273 (by first | omega | simp <;> omega) hg19 hr20 (by omega) (by omega)) ?_
    rintro ⟨⟨y15,y16,y17,y18,y19⟩,y20,x3⟩ ⟨hg21,hr22⟩
    exact Tot.ret ⟨hg21.mono (by omega),hr22.mono (by omega)⟩
   ·refine Tot.cnd (fun c23=>?_) (fun c23=>?_)
    ·refine Tot.bind (t277 hg14 hr15 (by omega) (by omega)) ?_
     rintro ⟨y3,⟨y4,y5,y6,y7,y8⟩,x,x1⟩ ⟨(ky3:List.length y3≤25),hg24,hr25⟩
     refine Tot.grd (by simp <;> omega) ?_
     refine Tot.bind (t273 (by first | omega | simp <;> omega) hg24 hr25 (by omega) (by omega)) ?_
     rintro ⟨⟨y9,y10,y11,y12,y13⟩,y14,x2⟩ ⟨hg26,hr27⟩
     refine Tot.bind (t303 hg26 hr27 (by omega) (by omega)) ?_
     rintro ⟨⟨y15,y16,y17,y18,y19⟩,y20,x3⟩ ⟨hg28,hr29⟩
     refine Tot.bind (t273 (by first | omega | simp <;> omega) hg28 hr29 (by omega) (by omega)) ?_
     rintro ⟨⟨y21,y22,y23,y24,y25⟩,y26,x4⟩ ⟨hg30,hr31⟩
     exact Tot.ret ⟨hg30.mono (by omega),hr31.mono (by omega)⟩
    ·refine Tot.cnd (fun c32=>?_) (fun c32=>?_)
     ·refine Tot.bind (t305 hg14 hr15 (by omega) (by omega)) ?_
      rintro ⟨⟨y3,y4,y5,y6,y7⟩,y8,x⟩ ⟨hg33,hr34⟩
      exact Tot.ret ⟨hg33.mono (by omega),hr34.mono (by omega)⟩
     ·refine Tot.cnd (fun c35=>?_) (fun c35=>?_)
      ·refine Tot.bind (t303 hg14 hr15 (by omega) (by omega)) ?_
       rintro ⟨⟨y3,y4,y5,y6,y7⟩,y8,x⟩ ⟨hg36,hr37⟩
       refine Tot.bind (t273 (by first | omega | simp <;> omega) hg36 hr37 (by omega) (by omega)) ?_
       rintro ⟨⟨y9,y10,y11,y12,y13⟩,y14,x1⟩ ⟨hg38,hr39⟩
       exact Tot.ret ⟨hg38.mono (by omega),hr39.mono (by omega)⟩
      ·refine Tot.cnd (fun c40=>?_) (fun c40=>?_)
       ·refine Tot.bind (t119b (m:=1) hr15 (by omega) (by simp) (by decide)) ?_
        rintro ⟨y3,y4,y5⟩ ⟨(ky3:List.length y3≤1),hr41⟩
        refine Tot.grd (by simp <;> omega) ?_
        refine Tot.bind (t273 (by first | omega | simp <;> omega) hg14 hr41 (by omega) (by omega)) ?_
        rintro ⟨⟨y6,y7,y8,y9,y10⟩,y11,x⟩ ⟨hg42,hr43⟩
        refine Tot.bind (t273 (by first | omega | simp <;> omega) hg42 hr43 (by omega) (by omega)) ?_
        rintro ⟨⟨y12,y13,y14,y15,y16⟩,y17,x1⟩ ⟨hg44,hr45⟩
        refine Tot.bind (t273 (by first | omega | simp <;> omega) hg44 hr45 (by omega) (by omega)) ?_
        rintro ⟨⟨y18,y19,y20,y21,y22⟩,y23,x2⟩ ⟨hg46,hr47⟩
        exact Tot.ret ⟨hg46.mono (by omega),hr47.mono (by omega)⟩
       ·refine Tot.cnd (fun c48=>?_) (fun c48=>?_)
        ·refine Tot.bind (t277 hg14 hr15 (by omega) (by omega)) ?_
         rintro ⟨y3,⟨y4,y5,y6,y7,y8⟩,x,x1⟩ ⟨(ky3:List.length y3≤25),hg49,hr50⟩
         refine Tot.grd (by simp <;> omega) ?_
         refine Tot.bind (t273 (by first | omega | simp <;> omega) hg49 hr50 (by omega) (by omega)) ?_
         rintro ⟨⟨y9,y10,y11,y12,y13⟩,y14,x2⟩ ⟨hg51,hr52⟩
         refine Tot.bind (t119b (m:=1) hr52 (by omega) (by simp) (by decide)) ?_
         rintro ⟨y15,y16,y17⟩ ⟨(ky15:List.length y15≤1),hr53⟩
         refine Tot.grd (by simp <;> omega) ?_
         refine Tot.bind (t273 (by first | omega | simp <;> omega) hg51 hr53 (by omega) (by omega)) ?_
         rintro ⟨⟨y18,y19,y20,y21,y22⟩,y23,x3⟩ ⟨hg54,hr55⟩
         refine Tot.bind (t273 (by first | omega | simp <;> omega) hg54 hr55 (by omega) (by omega)) ?_
         rintro ⟨⟨y24,y25,y26,y27,y28⟩,y29,x4⟩ ⟨hg56,hr57⟩
         exact Tot.ret ⟨hg56.mono (by omega),hr57.mono (by omega)⟩
        ·refine Tot.cnd (fun c58=>?_) (fun c58=>?_)
         ·refine Tot.bind (t277 hg14 hr15 (by omega) (by omega)) ?_
          rintro ⟨y3,⟨y4,y5,y6,y7,y8⟩,x,x1⟩ ⟨(ky3:List.length y3≤25),hg59,hr60⟩
          refine Tot.grd (by simp <;> omega) ?_
          refine Tot.bind (t273 (by first | omega | simp <;> omega) hg59 hr60 (by omega) (by omega)) ?_
          rintro ⟨⟨y9,y10,y11,y12,y13⟩,y14,x2⟩ ⟨hg61,hr62⟩
          refine Tot.bind (t304 hg61 hr62 (by omega) (by omega)) ?_
          rintro ⟨⟨y15,y16,y17,y18,y19⟩,y20,x3⟩ ⟨hg63,hr64⟩
          refine Tot.bind (t273 (by first | omega | simp <;> omega) hg63 hr64 (by omega) (by omega)) ?_
          rintro ⟨⟨y21,y22,y23,y24,y25⟩,y26,x4⟩ ⟨hg65,hr66⟩
          exact Tot.ret ⟨hg65.mono (by omega),hr66.mono (by omega)⟩
         ·refine Tot.cnd (fun c67=>?_) (fun c67=>?_)
          ·refine Tot.bind (t119b (m:=17) hr15 (by omega) (by simp) (by decide)) ?_
           rintro ⟨y3,y4,y5⟩ ⟨(ky3:List.length y3≤17),hr68⟩
           refine Tot.bind (t273 (by first | omega | simp <;> omega) hg14 hr68 (by omega) (by omega)) ?_
           rintro ⟨⟨y6,y7,y8,y9,y10⟩,y11,x⟩ ⟨hg69,hr70⟩
           refine Tot.bind (t119b (m:=4) hr70 (by omega) (by simp) (by decide)) ?_
           rintro ⟨y12,y13,y14⟩ ⟨(ky12:List.length y12≤4),hr71⟩
           refine Tot.bind (t273 (by first | omega | simp <;> omega) hg69 hr71 (by omega) (by omega)) ?_
           rintro ⟨⟨y15,y16,y17,y18,y19⟩,y20,x1⟩ ⟨hg72,hr73⟩
           exact Tot.ret ⟨hg72.mono (by omega),hr73.mono (by omega)⟩
          ·refine Tot.bind (t306 hg14 hr15 (by omega) (by omega)) ?_
           rintro ⟨⟨y3,y4,y5,y6,y7⟩,y8,x⟩ ⟨hg74,hr75⟩
           exact Tot.ret ⟨hg74.mono (by omega),hr75.mono (by omega)⟩
 rintro ⟨⟨o12,o21,o31,o41,o51⟩,o01,o13⟩ ⟨hg76,hr77⟩
 exact Tot.ret ⟨hg76.mono (by omega),hr77.mono (by omega)⟩
theorem t140 {v1:List UInt8} {r:List UInt8×Int} {c:Nat} (hv1:List.length v1≤10) (hr:Rd c r) (hc:c≤750000):Tot (F140 (v1,r)) fun y=>List.length y.1≤1000∧Rd (c+5) y.2:=by
 obtain ⟨o0,o1⟩:=r
 unfold F140
 refine Tot.cnd (fun c1=>?_) (fun c1=>?_)
 ·refine Tot.bind (t119b (m:=12) hr (by omega) (by simp) (by decide)) ?_
  rintro ⟨y,y1,y2⟩ ⟨(ky:List.length y≤12),hr2⟩
  refine Tot.grd (by simp <;> omega) ?_
  refine Tot.grd (by simp <;> omega) ?_
  refine Tot.grd (by simp <;> omega) ?_
  refine Tot.grd (by simp <;> omega) ?_
  refine Tot.bind (t119b (m:=28) hr2 (by omega) (by simp) (by decide)) ?_
  rintro ⟨y3,y4,y5⟩ ⟨(ky3:List.length y3≤28),hr3⟩
  refine Tot.grd (by simp <;> omega) ?_
  refine Tot.bind (t119b (m:=72) hr3 (by omega) (by simp) (by decide)) ?_
  rintro ⟨y6,y7,y8⟩ ⟨(ky6:List.length y6≤72),hr4⟩
  refine Tot.grd (by simp <;> omega) ?_
  exact Tot.ret ⟨(by first | omega | simp <;> omega),hr4.mono (by omega)⟩
 ·refine Tot.cnd (fun c5=>?_) (fun c5=>?_)
  ·refine Tot.bind (t119b (m:=1) hr (by omega) (by simp) (by decide)) ?_
   rintro ⟨y,y1,y2⟩ ⟨(ky:List.length y≤1),hr6⟩
   refine Tot.grd (by simp <;> omega) ?_
   refine Tot.grd (by simp <;> omega) ?_
   refine Tot.bind (t119b (m:=78) hr6 (by omega) (by simp) (by decide)) ?_
   rintro ⟨y3,y4,y5⟩ ⟨(ky3:List.length y3≤78),hr7⟩
   refine Tot.grd (by simp <;> omega) ?_
   exact Tot.ret ⟨(by first | omega | simp <;> omega),hr7.mono (by omega)⟩
  ·refine Tot.cnd (fun c8=>?_) (fun c8=>?_)
   ·refine Tot.bind (t119b (m:=40) hr (by omega) (by simp) (by decide)) ?_
    rintro ⟨y,y1,y2⟩ ⟨(ky:List.length y≤40),hr9⟩
    refine Tot.grd (by simp <;> omega) ?_
    refine Tot.grd (by simp <;> omega) ?_
    refine Tot.bind (t119b (m:=17) hr9 (by omega) (by simp) (by decide)) ?_
    rintro ⟨y3,y4,y5⟩ ⟨(ky3:List.length y3≤17),hr10⟩
    refine Tot.grd (by simp <;> omega) ?_
    refine Tot.grd (by simp <;> omega) ?_
    exact Tot.ret ⟨(by first | omega | simp <;> omega),hr10.mono (by omega)⟩
   ·refine Tot.cnd (fun c11=>?_) (fun c11=>?_)
    ·refine Tot.bind (t119b (m:=1) hr (by omega) (by simp) (by decide)) ?_
     rintro ⟨y,y1,y2⟩ ⟨(ky:List.length y≤1),hr12⟩
     refine Tot.grd (by simp <;> omega) ?_
     refine Tot.grd (by simp <;> omega) ?_
     exact Tot.ret ⟨(by first | omega | simp <;> omega),hr12.mono (by omega)⟩
    ·refine Tot.bind (t119b (m:=1) hr (by omega) (by simp) (by decide)) ?_
     rintro ⟨y,y1,y2⟩ ⟨(ky:List.length y≤1),hr13⟩
     refine Tot.grd (by simp <;> omega) ?_
     refine Tot.grd (by simp <;> omega) ?_
     exact Tot.ret ⟨(by first | omega | simp <;> omega),hr13.mono (by omega)⟩
end Go.Proofs.YtdpapeledldifaaGreat
end
section
namespace Go.Proofs.YtdpapeledldifaaGreat
open Go Go.AM Go.TM
set_option maxRecDepth 10000
theorem t217 {v1:List UInt8} {r:List UInt8×Int} {c:Nat} (hv1:List.length v1≤20) (hr:Rd c r) (hc:c≤750000):Tot (F217 (v1,r)) fun y=>List.length y.1≤80000∧Rd (c+600) y.2:=by
 obtain ⟨o0,o1⟩:=r
 unfold F217
 refine Tot.bindE (fun y=>List.length y.1≤20∧Gt (0+900) y.2.1∧Rd (c+3) y.2.2) (Tot.loop (fun x=>List.length x.1≤20∧((0:Int)≤x.2.1∧x.2.1≤(3:Int))∧Gt (300*Int.toNat x.2.1) x.2.2.1∧Rd (c+Int.toNat x.2.1) x.2.2.2) (fun x=>3 - Int.toNat x.2.1) ?_ ⟨hv1,⟨by simp,by simp⟩,⟨by simp,by simp,by simp,⟨by simp,by simp⟩,by simp⟩,(by exact hr)⟩) ?_
 ·rintro ⟨v11,v6,⟨o11,o2,o3,o4,o5⟩,o01,o12⟩ ⟨(kv11:List.length v11≤20),⟨(i0:(0:Int)≤v6),(i1:v6≤(3:Int))⟩,(hga:Gt (300*Int.toNat v6) (o11,o2,o3,o4,o5)),(hra:Rd (c+Int.toNat v6) (o01,o12))⟩
  obtain ⟨n,hn⟩:∃ n:Nat,Int.toNat v6=n:=⟨_,rfl⟩
  rw [hn] at hga hra
  have ko11:List.length o11≤300*n+0:=hga.1
  have ko2:List.length o2≤300*n+0:=hga.2.1
  have ko3:List.length o3≤300*n+0:=hga.2.2.1
  have ko5:List.length o5≤3:=hga.2.2.2.2
  refine Tot.cnd (fun c1=>?_) (fun c1=>?_)
  ·simp only [decide_eq_true_eq] at c1
   refine Tot.bind (t119b (m:=5) hra (by omega) (by simp) (by decide)) ?_
   rintro ⟨y,y1,y2⟩ ⟨(ky:List.length y≤5),hr2⟩
   refine Tot.bind (t273 (by first | omega | simp <;> omega) hga hr2 (by omega) (by omega)) ?_
   rintro ⟨⟨y3,y4,y5,y6,y7⟩,y8,x⟩ ⟨hg3,hr4⟩
   have ky3:List.length y3≤300*n+110:=hg3.1
   have ky4:List.length y4≤300*n+110:=hg3.2.1
   have ky5:List.length y5≤300*n+110:=hg3.2.2.1
   have ky7:List.length y7≤3:=hg3.2.2.2.2
   refine Tot.bind (t274 (by omega) (by omega)) ?_
   intro y9 (ky9:List.length y9≤25)
   refine Tot.grd (by simp <;> omega) ?_
   refine Tot.bind (t273 (by first | omega | simp <;> omega) hg3 hr4 (by omega) (by omega)) ?_
   rintro ⟨⟨y10,y11,y12,y13,y14⟩,y15,x1⟩ ⟨hg5,hr6⟩
   have ky10:List.length y10≤300*n+220:=hg5.1
   have ky11:List.length y11≤300*n+220:=hg5.2.1
   have ky12:List.length y12≤300*n+220:=hg5.2.2.1
   have ky14:List.length y14≤3:=hg5.2.2.2.2
   have hw:IntKind.wrap .i64 (v6+1)=v6+1:=wrapI (by omega) (by omega)
   rw [hw]
   exact Tot.ret ⟨⟨kv11,⟨by show (0:Int)≤v6+1;omega,by show v6+1≤(3:Int);omega⟩,hg5.mono (by show _≤300*Int.toNat (v6+1);omega),hr6.mono (by show _≤c+Int.toNat (v6+1);omega)⟩,by show 3 - Int.toNat (v6+1)<3 - Int.toNat v6;omega⟩
  ·simp only [decide_eq_false_iff_not] at c1
   exact Tot.ret ⟨(by first | omega | simp <;> omega),hga.mono (by omega),hra.mono (by omega)⟩
 rintro ⟨v11,⟨o11,o2,o3,o4,o5⟩,o01,o12⟩ ⟨(kv11:List.length v11≤20),hg7,hr8⟩
 have ko11:List.length o11≤0+900:=hg7.1
 have ko2:List.length o2≤0+900:=hg7.2.1
 have ko3:List.length o3≤0+900:=hg7.2.2.1
 have ko5:List.length o5≤3:=hg7.2.2.2.2
 refine Tot.bind (t51 hr8 (by omega)) ?_
 rintro ⟨y,y1,y2⟩ ⟨(a10:(0:Int)≤y),(b11:(1:Int)≤(6:Int)→y<(6:Int)),-,hr9⟩
 refine Tot.bindE (fun y=>List.length y.1≤20∧((-9223372036854775808:Int)≤y.2.1∧y.2.1≤(9223372036854775807:Int))∧Gt (0+12900) y.2.2.1∧Rd (c+244) y.2.2.2) (Tot.loop (fun x=>List.length x.1≤20∧((-9223372036854775808:Int)≤x.2.1∧x.2.1≤(9223372036854775807:Int))∧((0:Int)≤x.2.2.1∧x.2.2.1≤(6:Int))∧Gt (12900 - 2000*Int.toNat x.2.2.1) x.2.2.2.1∧Rd (c+244 - 40*Int.toNat x.2.2.1) x.2.2.2.2) (fun x=>Int.toNat x.2.2.1) ?_ (by rw [show IntKind.wrap .i64 (1+y)=1+y from wrapI (by omega) (by omega)];exact ⟨kv11,⟨hg7.2.2.2.1.1,hg7.2.2.2.1.2⟩,⟨by show (0:Int)≤1+y;omega,by show 1+y≤(6:Int);omega⟩,hg7.mono (by show _≤12900 - 2000*Int.toNat (1+y);omega),hr9.mono (by show _≤c+244 - 40*Int.toNat (1+y);omega)⟩)) ?_
 ·rintro ⟨v12,v7,v8,⟨o13,o21,o31,o41,o51⟩,o02,o14⟩ ⟨(kv12:List.length v12≤20),⟨(j0:(-9223372036854775808:Int)≤v7),(j1:v7≤(9223372036854775807:Int))⟩,⟨(i0:(0:Int)≤v8),(i1:v8≤(6:Int))⟩,(hga:Gt (12900 - 2000*Int.toNat v8) (o13,o21,o31,o41,o51)),(hra:Rd (c+244 - 40*Int.toNat v8) (o02,o14))⟩
  obtain ⟨n,hn⟩:∃ n:Nat,Int.toNat v8=n:=⟨_,rfl⟩
  rw [hn] at hga hra
  have ko13:List.length o13≤(12900 - 2000*n)+0:=hga.1
  have ko21:List.length o21≤(12900 - 2000*n)+0:=hga.2.1
  have ko31:List.length o31≤(12900 - 2000*n)+0:=hga.2.2.1
  have ko51:List.length o51≤3:=hga.2.2.2.2
  refine Tot.cnd (fun c12=>?_) (fun c12=>?_)
  ·simp only [decide_eq_true_eq] at c12
   refine Tot.cnd (fun c13=>?_) (fun c13=>?_)
   ·simp only [decide_eq_true_eq] at c13
    refine Tot.bind (t275 hga hra (by omega) (by omega)) ?_
    rintro ⟨⟨y3,y4,y5,y6,y7⟩,y8,x⟩ ⟨hg14,hr15⟩
    have ky3:List.length y3≤(12900 - 2000*n)+2000:=hg14.1
    have ky4:List.length y4≤(12900 - 2000*n)+2000:=hg14.2.1
    have ky5:List.length y5≤(12900 - 2000*n)+2000:=hg14.2.2.1
    have ky7:List.length y7≤3:=hg14.2.2.2.2
    have hw:IntKind.wrap .i64 (v8 - 1)=v8 - 1:=wrapI (by omega) (by omega)
    rw [hw]
    exact Tot.ret ⟨⟨kv12,⟨j0,j1⟩,⟨by show (0:Int)≤v8 - 1;omega,by show v8 - 1≤(6:Int);omega⟩,hg14.mono (by show _≤12900 - 2000*Int.toNat (v8 - 1);omega),hr15.mono (by show _≤c+244 - 40*Int.toNat (v8 - 1);omega)⟩,by show Int.toNat (v8 - 1)<Int.toNat v8;omega⟩
   ·simp only [decide_eq_false_iff_not] at c13
    exact Tot.ret ⟨(by first | omega | simp <;> omega),⟨j0,j1⟩,hga.mono (by omega),hra.mono (by omega)⟩
  ·simp only [decide_eq_false_iff_not] at c12
   exact Tot.ret ⟨(by first | omega | simp <;> omega),⟨j0,j1⟩,hga.mono (by omega),hra.mono (by omega)⟩
 rintro ⟨v12,v7,⟨o13,o21,o31,o41,o51⟩,o02,o14⟩ ⟨(kv12:List.length v12≤20),i16,hg17,hr18⟩
 have ko13:List.length o13≤0+12900:=hg17.1
 have ko21:List.length o21≤0+12900:=hg17.2.1
 have ko31:List.length o31≤0+12900:=hg17.2.2.1
 have ko51:List.length o51≤3:=hg17.2.2.2.2
 refine Tot.bindE (fun y=>List.length y.1≤20∧Gt (0+14100) y.2.1∧Rd (c+248) y.2.2) ?_ ?_
 ·refine Tot.bind (t51 hr18 (by omega)) ?_
  rintro ⟨y3,y4,y5⟩ ⟨(a20:(0:Int)≤y3),(b21:(1:Int)≤(3:Int)→y3<(3:Int)),-,hr19⟩
  refine Tot.cnd (fun c22=>?_) (fun c22=>?_)
  ·simp only [decide_eq_true_eq] at c22
   refine Tot.bind (t276 i16.1 i16.2 hg17 hr19 (by omega) (by omega)) ?_
   rintro ⟨⟨y6,y7,y8,y9,y10⟩,y11,x⟩ ⟨hg23,hr24⟩
   have ky6:List.length y6≤0+14100:=hg23.1
   have ky7:List.length y7≤0+14100:=hg23.2.1
   have ky8:List.length y8≤0+14100:=hg23.2.2.1
   have ky10:List.length y10≤3:=hg23.2.2.2.2
   exact Tot.ret ⟨(by first | omega | simp <;> omega),hg23.mono (by omega),hr24.mono (by omega)⟩
  ·simp only [decide_eq_false_iff_not] at c22
   exact Tot.ret ⟨(by first | omega | simp <;> omega),hg17.mono (by omega),hr19.mono (by omega)⟩
 rintro ⟨v13,⟨o15,o22,o32,o42,o52⟩,o03,o16⟩ ⟨(kv13:List.length v13≤20),hg25,hr26⟩
 have ko15:List.length o15≤0+14100:=hg25.1
 have ko22:List.length o22≤0+14100:=hg25.2.1
 have ko32:List.length o32≤0+14100:=hg25.2.2.1
 have ko52:List.length o52≤3:=hg25.2.2.2.2
 refine Tot.bindE (fun y=>List.length y.1≤20∧Gt (0+14320) y.2.1∧Rd (c+250) y.2.2) ?_ ?_
 ·refine Tot.bind (t51 hr26 (by omega)) ?_
  rintro ⟨y3,y4,y5⟩ ⟨(a28:(0:Int)≤y3),(b29:(1:Int)≤(8:Int)→y3<(8:Int)),-,hr27⟩
  refine Tot.cnd (fun c30=>?_) (fun c30=>?_)
  ·simp only [decide_eq_true_eq] at c30
   refine Tot.bind (t277 hg25 hr27 (by omega) (by omega)) ?_
   rintro ⟨y6,⟨y7,y8,y9,y10,y11⟩,x,x1⟩ ⟨(ky6:List.length y6≤25),hg31,hr32⟩
   have ky7:List.length y7≤0+14100:=hg31.1
   have ky8:List.length y8≤0+14100:=hg31.2.1
   have ky9:List.length y9≤0+14100:=hg31.2.2.1
   have ky11:List.length y11≤3:=hg31.2.2.2.2
   refine Tot.grd (by simp <;> omega) ?_
   refine Tot.bind (t273 (by first | omega | simp <;> omega) hg31 hr32 (by omega) (by omega)) ?_
   rintro ⟨⟨y12,y13,y14,y15,y16⟩,y17,x2⟩ ⟨hg33,hr34⟩
   have ky12:List.length y12≤0+14210:=hg33.1
   have ky13:List.length y13≤0+14210:=hg33.2.1
   have ky14:List.length y14≤0+14210:=hg33.2.2.1
   have ky16:List.length y16≤3:=hg33.2.2.2.2
   refine Tot.bind (t273 (by first | omega | simp <;> omega) hg33 hr34 (by omega) (by omega)) ?_
   rintro ⟨⟨y18,y19,y20,y21,y22⟩,y23,x3⟩ ⟨hg35,hr36⟩
   have ky18:List.length y18≤0+14320:=hg35.1
   have ky19:List.length y19≤0+14320:=hg35.2.1
   have ky20:List.length y20≤0+14320:=hg35.2.2.1
   have ky22:List.length y22≤3:=hg35.2.2.2.2
   exact Tot.ret ⟨(by first | omega | simp <;> omega),hg35.mono (by omega),hr36.mono (by omega)⟩
  ·simp only [decide_eq_false_iff_not] at c30
   refine Tot.bind (t273 (by first | omega | simp <;> omega) hg25 hr27 (by omega) (by omega)) ?_
   rintro ⟨⟨y6,y7,y8,y9,y10⟩,y11,x⟩ ⟨hg37,hr38⟩
   have ky6:List.length y6≤0+14210:=hg37.1
   have ky7:List.length y7≤0+14210:=hg37.2.1
   have ky8:List.length y8≤0+14210:=hg37.2.2.1
   have ky10:List.length y10≤3:=hg37.2.2.2.2
   exact Tot.ret ⟨(by first | omega | simp <;> omega),hg37.mono (by omega),hr38.mono (by omega)⟩
 rintro ⟨v14,⟨o17,o23,o33,o43,o53⟩,o04,o18⟩ ⟨(kv14:List.length v14≤20),hg39,hr40⟩
 have ko17:List.length o17≤0+14320:=hg39.1
 have ko23:List.length o23≤0+14320:=hg39.2.1
 have ko33:List.length o33≤0+14320:=hg39.2.2.1
 have ko53:List.length o53≤3:=hg39.2.2.2.2
 refine Tot.grd (by simp <;> omega) ?_
 refine Tot.grd (by simp <;> omega) ?_
 refine Tot.grd (by simp <;> omega) ?_
 refine Tot.grd (by simp <;> omega) ?_
 refine Tot.grd (by simp <;> omega) ?_
 exact Tot.ret ⟨(by first | omega | simp <;> omega),hr40.mono (by omega)⟩
end Go.Proofs.YtdpapeledldifaaGreat
end
section
namespace Go.Proofs.YtdpapeledldifaaGreat
open Go Go.AM Go.TM Go.Stow
set_option maxRecDepth 10000
theorem fit_nil:fCls ([],0,0,0,[],[],[]):=by
 refine ⟨⟨by simp,by simp,by simp,by simp⟩,by simp,⟨by simp,by simp⟩,⟨by simp,by simp⟩,⟨by simp,by simp⟩,by simp,by simp,by simp⟩
theorem put_len {c:Cls} (h:put c≠[]):(pCls tI abI c).length≤900:=by
 refine Classical.byContradiction fun hn=>h (put_no fun hh=>hn hh.2.1)
theorem t139 (s:List UInt8):Tot (F139 s) fun y=>y.length≤900:=by
 unfold F139
 refine Tot.bind t218 ?_
 rintro ⟨b,c0,c1,c2,c3,c4,c5,c6⟩ hb
 refine Tot.cnd (fun _=>Tot.ret (by simp)) fun h=>?_
 have hp:=hb (by simpa using h)
 simp only at hp
 have hf:=put_fit hp
 rw [p55 _ (fit_b hf) (fit_few hf),bindO_s]
 refine Tot.ret ?_
 rw [cls_eq _ hf]
 exact put_len hp
theorem t138 {r:List UInt8×Int} {c:Nat} (hr:Rd c r) (hc:c≤700000):Tot (F138 r) fun y=>y.1.2.length≤900∧Rd (c+601) y.2:=by
 obtain ⟨o0,o1⟩:=r
 unfold F138
 refine Tot.bind (t119b (m:=3) hr (by omega) (by simp) (by decide)) ?_
 rintro ⟨y,y1,y2⟩ ⟨(hy:List.length y≤3),hr1⟩
 refine Tot.grd (by simp;omega) (Tot.grd (by simp;omega) (Tot.bind (t217 (by simp) hr1 (by omega)) ?_))
 rintro ⟨y3,y4,y5⟩ ⟨(hy3:List.length y3≤80000),hr2⟩
 refine Tot.grd (by simp;omega) (Tot.bind (t139 _) ?_)
 intro y6 hy6
 exact Tot.ret ⟨hy6,hr2.mono (by omega)⟩
theorem got63 {l : List UInt8} {r : Bool × Cls} (h : F63 l = some r) : r = (false, [], 0, 0, 0, [], [], []) ∨ r.1 = true := by
 unfold F63 at h
 cases c1 : decide ((900 : Int) < (l.length : Int)) with
 | true => rw [c1, cndO_t] at h; exact .inl (Option.some.inj h).symm
 | false =>
  rw [c1, cndO_f] at h
  cases c2 : F142 (l, 0, false) with
  | none => rw [c2] at h; cases h
  | some v =>
   obtain ⟨⟨y, y1, y2, y3, y4, y5, x⟩, x1, x2, x3⟩ := v
   rw [c2, bindO_s] at h
   cases x3 with
   | true => exact .inl (Option.some.inj h).symm
   | false =>
    simp only [cndO_f] at h
    cases c3 : (!decide (x2 = (l.length : Int))) with
    | true => rw [c3, cndO_t] at h; exact .inl (Option.some.inj h).symm
    | false =>
     rw [c3, cndO_f] at h
     cases c4 : F55 (y, y1, y2, y3, y4, y5, x) with
     | none => rw [c4] at h; cases h
     | some w =>
      rw [c4, bindO_s] at h
      cases c5 : (!decide (w = l)) with
      | true => rw [c5, cndO_t] at h; exact .inl (Option.some.inj h).symm
      | false => rw [c5, cndO_f] at h; right; rw [← Option.some.inj h]
theorem long63 {l:List UInt8} (h:¬ l.length≤900):F63 l=some (false,[],0,0,0,[],[],[]):=by
 have:(900:Int)<(l.length:Int):=by omega
 simp only [F63,this,decide_true,cndO_t]
theorem all63 (l:List UInt8):∃ b c,F63 l=some (b,c)∧fCls c∧(b=true→l.length≤900∧gCls l=some (c,[])∧pCls tS abS c=l)∧(∀ c',l.length≤900→gCls l=some (c',[])→pCls tS abS c'=l→b=true)∧(b=false→c=([],0,0,0,[],[],[])):=by
 by_cases hl:l.length≤900
 ·obtain ⟨b,c,h1,h2,h3⟩:=get63 l hl
  have hg:=got63 h1
  refine ⟨b,c,h1,?_,fun hb=>⟨hl,h2 hb⟩,fun c' _=>h3 c',fun hb=>?_⟩
  ·rcases hg with hg | hg
   ·simp only [Prod.mk.injEq] at hg
    have:c=([],0,0,0,[],[],[]):=by obtain ⟨-,hg⟩:=hg;exact hg ▸ rfl
    rw [this];exact fit_nil
   ·exact fit_cls _ _ _ (h2 hg).1
  ·rcases hg with hg | hg
   ·have:=congrArg Prod.snd hg;exact this
   ·simp only at hg;rw [hb] at hg;cases hg
 ·exact ⟨false,_,long63 hl,fit_nil,(fun h=>by cases h),fun c' h=>absurd h hl,fun _=>rfl⟩
theorem t63 (l:List UInt8):Tot (F63 l) fun y=>fCls y.2∧(pCls tS abS y.2).length≤900:=by
 obtain ⟨b,c,h1,h2,h3,_,h5⟩:=all63 l
 refine ⟨_,h1,h2,?_⟩
 cases b with
 | true=>obtain ⟨k1,-,k3⟩:=h3 rfl;simp only;rw [k3];exact k1
 | false=>rw [h5 rfl];simp [pCls,tS,w1]
theorem t56 {r:List UInt8×Int} {c:Nat} (hr:Rd c r) (hc:c≤600000):Tot (F56 r) fun y=>(fCls y.1∧(pCls tS abS y.1).length≤900)∧Rd (c+700) y.2:=by
 obtain ⟨o0,o1⟩:=r
 unfold F56
 refine Tot.bind (t119b (m:=1) hr (by omega) (by simp) (by decide)) ?_
 rintro ⟨y,y1,y2⟩ ⟨(hy:List.length y≤1),hr1⟩
 refine Tot.bindE (fun z=>Rd (c+700) z.2.2) ?_ ?_
 ·refine Tot.cnd (fun _=>Tot.bind (t138 hr1 (by omega)) ?_) fun _=>Tot.bind (t140 (by omega) hr1 (by omega)) ?_
  ·rintro ⟨⟨y3,y4⟩,y5,y6⟩ ⟨-,hr2⟩
   exact Tot.ret (hr2.mono (by omega))
  ·rintro ⟨y3,y4,y5⟩ ⟨-,hr2⟩
   refine Tot.bind (t139 _) ?_
   intro y6 _
   exact Tot.ret (hr2.mono (by omega))
 rintro ⟨t,⟨a1,a2,a3,a4,a5,a6,a7⟩,b1,b2⟩ hr2
 refine Tot.bind (t63 t) ?_
 rintro ⟨z,z1,z2,z3,z4,z5,z6,z7⟩ hz
 exact Tot.ret ⟨hz,hr2⟩
theorem t54 {s:List UInt8} {r:List UInt8×Int} {c:Nat} (hs:s.length≤1000000) (hr:Rd c r) (hc:c≤600000):Tot (F54 (s,r)) fun y=>y.1.length≤s.length+1∧Rd (c+3) y.2:=by
 obtain ⟨o0,o1⟩:=r
 have hw:IntKind.wrap .i64 ((s.length:Int)+1)=(s.length:Int)+1:=wrapI (by omega) (by omega)
 simp only [F54,hw]
 refine Tot.bind (t51 hr (by omega)) ?_
 rintro ⟨k,y1,y2⟩ ⟨(k0:0≤k),k1,-,hr1⟩
 have k1:k<(s.length:Int)+1:=k1 (by omega)
 refine Tot.bind (t51 hr1 (by omega)) ?_
 rintro ⟨y3,y4,y5⟩ ⟨-,-,-,hr2⟩
 refine Tot.bindE (fun z=>z.1=s∧Rd (c+3) z.2) ?_ ?_
 ·refine Tot.bindE (fun z=>∃ b,z=(s,k,y3,b,y4,y5)) ?_ ?_
  ·exact Tot.cnd (fun _=>Tot.ret ⟨_,rfl⟩) fun _=>Tot.ret ⟨_,rfl⟩
  rintro _ ⟨b,rfl⟩
  refine Tot.cnd (fun _=>Tot.cnd (fun h=>?_) fun _=>Tot.ret ⟨rfl,hr2.mono (by omega)⟩) fun _=>?_
  ·simp only [decide_eq_true_eq] at h
   have hw:IntKind.wrap .i64 (k+1)=k+1:=wrapI (by omega) (by omega)
   simp only [hw]
   refine Tot.grd (by simp;omega) (Tot.grd (by simp;omega) (Tot.bind (t51 hr2 (by omega)) ?_))
   rintro ⟨y6,y7,y8⟩ ⟨-,-,-,hr3⟩
   refine Tot.seq (by repeat first | exact Tot.ret trivial | refine Tot.seq ?_ ?_ | refine Tot.grd (by first | decide | simp <;> omega) ?_) ?_
   refine Tot.grd (u8ok _) ?_
   refine Tot.seq (by repeat first | exact Tot.ret trivial | refine Tot.seq ?_ ?_ | refine Tot.grd (by first | decide | simp <;> omega) ?_) ?_
   refine Tot.grd (by simp;omega) (Tot.grd (by simp;omega) (Tot.ret ⟨?_,hr3⟩))
   simp only [List.length_append,List.length_cons,List.length_nil,List.length_drop,List.length_take];omega
  ·refine Tot.cnd (fun _=>Tot.grd (by simp;omega) (Tot.ret ⟨by simp only [List.length_drop,List.length_take];omega,hr2.mono (by omega)⟩)) fun _=>Tot.cnd (fun _=>?_) fun _=>Tot.ret ⟨rfl,hr2.mono (by omega)⟩
   refine Tot.bind (t51 hr2 (by omega)) ?_
   rintro ⟨y6,y7,y8⟩ ⟨-,-,-,hr3⟩
   exact Tot.grd (u8ok _) (Tot.grd (by simp;omega) (Tot.ret ⟨by simp only [List.length_append,List.length_cons,List.length_nil];omega,hr3⟩))
 rintro ⟨s1,o1,o2⟩ ⟨hs1,hr3⟩
 simp only at hs1
 subst hs1
 exact Tot.ret ⟨by simp only;omega,hr3⟩
end Go.Proofs.YtdpapeledldifaaGreat
end
section
namespace Go.Proofs.YtdpapeledldifaaGreat
open Go Go.AM Go.TM Go.Stow
set_option maxRecDepth 10000
theorem Ms.at {K:Nat} {l:List Mth} (h:Ms K l) {i:Nat} {m:Mth} (e:l[i]? = some m):Mb K m:=h.2 m (List.mem_of_getElem? e)
theorem t120 {a b d:Int} {r:List UInt8×Int} {p:List Cst} {l2:List Int} {l3:List (Int×Int×Int)} {ms:List Mth} {c K:Nat} (hr:Rd c r) (hm:Ms K ms) (hK:K≤1000) (hc:c≤500000) :
  Tot (F120 ((a,b,d),r,p,l2,l3,ms)) fun y=>∃ r' ms',y=((a,b,d),r',p,l2,l3,ms')∧Rd (c+10) r'∧Ms (K+1) ms':=by
 obtain ⟨o0,o1⟩:=r
 have hl:=hm.1
 unfold F120
 refine Tot.bindE (fun z=>∃ r',z=((a,b,d),([],0,0,0,[],[],[]),r',p,l2,l3,ms)∧Rd (c+1) r'∧1≤ms.length) ?_ ?_
 ·refine Tot.cnd (fun _=>Tot.ret ⟨_,_,rfl,hr.mono (by omega),hm.mono (by omega)⟩) fun h=>Tot.bind (t51 hr (by omega)) ?_
  simp only [decide_eq_false_iff_not] at h
  rintro ⟨y,y1,y2⟩ ⟨-,-,-,hr1⟩
  exact Tot.cnd (fun _=>Tot.ret ⟨_,_,rfl,hr1.mono (by omega),hm.mono (by omega)⟩) fun _=>Tot.ret ⟨_,rfl,hr1,by omega⟩
 rintro _ ⟨⟨o2,o3⟩,rfl,hr1,h1⟩
 refine Tot.bind (t51 hr1 (by omega)) ?_
 rintro ⟨y,y1,y2⟩ ⟨(k0:0≤y),k1,-,hr2⟩
 have k1:y<(ms.length:Int):=k1 (by omega)
 refine Tot.grd (by simp;omega) (Tot.bind (t51 hr2 (by omega)) ?_)
 rintro ⟨y3,y4,y5⟩ ⟨-,-,-,hr3⟩
 obtain ⟨m,em⟩:∃ m,ms[y.toNat]? = some m:=⟨ms[y.toNat],List.getElem?_eq_getElem (by omega)⟩
 have hmb:=hm.at em
 have hlt:decide (y.toNat<ms.length)=true:=by simp only [decide_eq_true_eq];omega
 obtain ⟨m0,m1,m2,m3,m4,m5,m6,m7⟩:=m
 obtain ⟨g1,g2,g3,g4⟩:=hmb
 simp only at g1 g2 g3 g4
 have keep:∀ {q0 q1 q2 q3 q4:Int},Ms (K+1) (ms.set y.toNat (q0,q1,q2,q3,q4,m5,m6,m7)):=(hm.mono (by omega)).set _ ⟨by simp only;omega,by simp only;omega,by simp only;omega,g4⟩
 refine Tot.bindE (fun z=>∃ r' ms',z=((a,b,d),([],0,0,0,[],[],[]),r',p,l2,l3,ms')∧Rd (c+10) r'∧Ms (K+1) ms') ?_ ?_
 ·refine Tot.cnd (fun _=>?_) fun _=>Tot.cnd (fun _=>?_) fun _=>Tot.cnd (fun _=>?_) fun _=>Tot.cnd (fun _=>?_) fun _=>Tot.cnd (fun _=>?_) fun _=>Tot.cnd (fun _=>?_) fun _=>?_
  ·refine Tot.at' em (Tot.bind (t54 (s:=m5) (by omega) hr3 (by omega)) ?_)
   rintro ⟨y6,y7,y8⟩ ⟨hy6,hr4⟩
   have hy6:y6.length≤m5.length+1:=hy6
   exact Tot.at' em (Tot.ret ⟨_,_,rfl,hr4.mono (by omega),(hm.mono (by omega)).set _ ⟨by show y6.length≤K+1;omega,by simp only;omega,by simp only;omega,g4⟩⟩)
  ·refine Tot.bind (t105b (m:=1000) hr3 (by omega) (by simp) (by decide)) ?_
   rintro ⟨y6,y7,y8⟩ ⟨-,-,hr4⟩
   exact Tot.at' em (Tot.ret ⟨_,_,rfl,hr4.mono (by omega),keep⟩)
  ·refine Tot.bind (t105b (m:=1000) hr3 (by omega) (by simp) (by decide)) ?_
   rintro ⟨y6,y7,y8⟩ ⟨-,-,hr4⟩
   exact Tot.at' em (Tot.ret ⟨_,_,rfl,hr4.mono (by omega),keep⟩)
  ·have gl:(decide (List.length m7+1≤9223372036854775807) && decide ((List.length m7+1)*56≤140737488355328))=true:=by simp;omega
   obtain ⟨⟨y6,y7,y8⟩,c1,-,-,-,hr4⟩:=t51 (n:=8) hr3 (by omega)
   obtain ⟨⟨y9,y10,y11⟩,c2,-,-,-,hr5⟩:=t51 (n:=5) hr4 (by omega)
   obtain ⟨⟨y12,y13,y14⟩,c3,-,-,-,hr6⟩:=t51 (n:=3) hr5 (by omega)
   simp only at c2 c3
   simp only [atO_of em,c1,c2,c3,bindO_s,eq_self,decide_true,Bool.and_true,Bool.true_and,beq_self_eq_true,hlt,grdO_t,seqU_s,gl]
   refine Tot.ret ⟨_,_,rfl,hr6.mono (by omega),(hm.mono (by omega)).set _ ⟨by simp only;omega,by simp only;omega,by simp only [List.length_append,List.length_cons,List.length_nil];omega,fun f hf=>?_⟩⟩
   simp only [List.mem_append,List.mem_singleton] at hf
   rcases hf with hf | rfl
   ·exact g4 f hf
   ·exact ⟨by simp,by simp⟩
  ·have gl:(decide (List.length m6+1≤9223372036854775807) && decide ((List.length m6+1)*32≤140737488355328))=true:=by simp;omega
   obtain ⟨⟨y6,y7,y8⟩,c1,-,-,-,hr4⟩:=t51 (n:=4) hr3 (by omega)
   obtain ⟨⟨y9,y10,y11⟩,c2,-,-,-,hr5⟩:=t51 (n:=6) hr4 (by omega)
   obtain ⟨⟨y12,y13,y14⟩,c3,-,-,-,hr6⟩:=t51 (n:=6) hr5 (by omega)
   obtain ⟨⟨y15,y16,y17⟩,c4,-,-,-,hr7⟩:=t51 (n:=3) hr6 (by omega)
   simp only at c2 c3 c4
   simp only [atO_of em,c1,c2,c3,c4,bindO_s,eq_self,decide_true,Bool.and_true,Bool.true_and,beq_self_eq_true,hlt,grdO_t,seqU_s,gl]
   exact Tot.ret ⟨_,_,rfl,hr7.mono (by omega),(hm.mono (by omega)).set _ ⟨by simp only;omega,by simp only [List.length_append,List.length_cons,List.length_nil];omega,by simp only;omega,g4⟩⟩
  ·refine Tot.bind (t51 hr3 (by omega)) ?_
   rintro ⟨y6,y7,y8⟩ ⟨-,-,-,hr4⟩
   exact Tot.at' em (Tot.ret ⟨_,_,rfl,hr4.mono (by omega),keep⟩)
  ·refine Tot.bind (t51 hr3 (by omega)) ?_
   rintro ⟨y6,y7,y8⟩ ⟨-,-,-,hr4⟩
   exact Tot.at' em (Tot.ret ⟨_,_,rfl,hr4.mono (by omega),keep⟩)
 rintro _ ⟨⟨r1,r2⟩,ms',rfl,hr4,hm'⟩
 exact Tot.ret ⟨_,_,rfl,hr4,hm'⟩
def Bt (K:Nat) (c:Cls):Prop:=(c.1.length≤60∧∀ x∈c.1,x.2.1.length≤255)∧c.2.2.2.2.1.length≤100∧c.2.2.2.2.2.1.length≤100∧Ms K c.2.2.2.2.2.2
theorem fit_ms {l:List Mth} (h:∀ x∈l,fMth x) (hl:l.length≤6):Ms 200 l:=by
 refine ⟨by omega,fun m hm=>?_⟩
 obtain ⟨_,_,_,_,_,h1,⟨h2,_⟩,h3,h4⟩:=h m hm
 refine ⟨by omega,by omega,by omega,fun f hf=>?_⟩
 obtain ⟨_,⟨h5,_⟩,⟨h6,_⟩⟩:=h4 f hf
 omega
theorem set_text {p:List Cst} (h:∀ x∈p,x.2.1.length≤255) (i:Nat) {y:Cst} (hy:y.2.1.length≤255):∀ x∈p.set i y,x.2.1.length≤255:=by
 intro x hx
 rcases List.mem_or_eq_of_mem_set hx with hx | rfl
 ·exact h x hx
 ·exact hy
theorem t50 {r:List UInt8×Int} {c:Nat} (hr:Rd c r) (hc:c≤400000):Tot (F50 r) fun y=>Bt 210 y.1∧Rd (c+800) y.2:=by
 obtain ⟨o0,o1⟩:=r
 simp only [F50,both_same,eq_self,decide_true,grdO_t,seqU_s]
 refine Tot.bind (t56 hr (by omega)) ?_
 rintro ⟨⟨y,y1,y2,y3,y4,y5,x⟩,x1,x2⟩ ⟨⟨⟨⟨f1,f2,f3,f4⟩,h1,_,_,_,_,_,h7⟩,-⟩,hr1⟩
 simp only at f1 f2 f3 f4 h1 h7 hr1
 have hms:=fit_ms h7 f4
 have htx:∀ x∈y,x.2.1.length≤255:=fun x hx=>(h1 x hx).2.1
 refine Tot.cnd (fun _=>Tot.ret ⟨⟨⟨f1,htx⟩,by simp only;omega,by simp only;omega,hms.mono (by omega)⟩,hr1.mono (by omega)⟩) fun h=>?_
 simp only [decide_eq_false_iff_not] at h
 refine Tot.bind (t51 hr1 (by omega)) ?_
 rintro ⟨k,y7,y8⟩ ⟨(k0:0≤k),(k1:(1:Int)≤(y.length:Int)→k<(y.length:Int)),-,hr2⟩
 have k1:k<(y.length:Int):=k1 (by omega)
 refine Tot.bind (t51 hr2 (by omega)) ?_
 rintro ⟨y9,y10,y11⟩ ⟨-,-,-,hr3⟩
 obtain ⟨e,ee⟩:∃ e,y[k.toNat]? = some e:=⟨y[k.toNat],List.getElem?_eq_getElem (by omega)⟩
 have het:=htx e (List.mem_of_getElem? ee)
 have gk:(decide ((0:Int)≤k) && decide (k<(y.length:Int)))=true:=by simp;omega
 refine Tot.bindE (fun z=>∃ c' r',z=(([],0,0,0,[],[],[]),c',r')∧Bt 205 c'∧Rd (c+780) r') ?_ ?_
 ·refine Tot.cnd (fun _=>?_) fun _=>Tot.cnd (fun _=>?_) fun _=>Tot.cnd (fun _=>?_) fun _=>Tot.cnd (fun _=>?_) fun _=>Tot.cnd (fun _=>?_) fun _=>Tot.cnd (fun _=>?_) fun _=>Tot.cnd (fun _=>?_) fun _=>Tot.cnd (fun _=>?_) fun _=>?_
  ·refine Tot.bind (t105 hr3 (by omega) (by simp)) ?_
   rintro ⟨y12,y13,y14⟩ ⟨-,hr4⟩
   exact Tot.grd gk (Tot.at' ee (Tot.ret ⟨_,_,rfl,⟨⟨by simp only [List.length_set];omega,set_text htx _ het⟩,by simp only;omega,by simp only;omega,hms.mono (by omega)⟩,hr4.mono (by omega)⟩))
  ·refine Tot.bind (t51 hr3 (by omega)) ?_
   rintro ⟨y12,y13,y14⟩ ⟨-,-,-,hr4⟩
   exact Tot.grd gk (Tot.at' ee (Tot.ret ⟨_,_,rfl,⟨⟨by simp only [List.length_set];omega,set_text htx _ het⟩,by simp only;omega,by simp only;omega,hms.mono (by omega)⟩,hr4.mono (by omega)⟩))
  ·refine Tot.bind (t119b (m:=10) hr3 (by omega) (by simp) (by decide)) ?_
   rintro ⟨y12,y13,y14⟩ ⟨(hy:List.length y12≤10),hr4⟩
   exact Tot.grd gk (Tot.at' ee (Tot.ret ⟨_,_,rfl,⟨⟨by simp only [List.length_set];omega,set_text htx _ (by simp only;omega)⟩,by simp only;omega,by simp only;omega,hms.mono (by omega)⟩,hr4.mono (by omega)⟩))
  ·refine Tot.bind (t51 hr3 (by omega)) ?_
   rintro ⟨y12,y13,y14⟩ ⟨-,-,-,hr4⟩
   exact Tot.ret ⟨_,_,rfl,⟨⟨f1,htx⟩,by simp only;omega,by simp only;omega,hms.mono (by omega)⟩,hr4.mono (by omega)⟩
  ·refine Tot.bind (t105 hr3 (by omega) (by simp)) ?_
   rintro ⟨y12,y13,y14⟩ ⟨-,hr4⟩
   exact Tot.ret ⟨_,_,rfl,⟨⟨f1,htx⟩,by simp only;omega,by simp only;omega,hms.mono (by omega)⟩,hr4.mono (by omega)⟩
  ·refine Tot.bind (t105 hr3 (by omega) (by simp)) ?_
   rintro ⟨y12,y13,y14⟩ ⟨-,hr4⟩
   exact Tot.grd (by simp;omega) (Tot.ret ⟨_,_,rfl,⟨⟨f1,htx⟩,by simp only [List.length_append,List.length_cons,List.length_nil];omega,by simp only;omega,hms.mono (by omega)⟩,hr4.mono (by omega)⟩)
  ·refine Tot.bind (t51 hr3 (by omega)) ?_
   rintro ⟨y12,y13,y14⟩ ⟨-,-,-,hr4⟩
   refine Tot.bind (t105 hr4 (by omega) (by simp)) ?_
   rintro ⟨y15,y16,y17⟩ ⟨-,hr5⟩
   refine Tot.bind (t105 hr5 (by omega) (by simp)) ?_
   rintro ⟨y18,y19,y20⟩ ⟨-,hr6⟩
   exact Tot.grd (by simp;omega) (Tot.ret ⟨_,_,rfl,⟨⟨f1,htx⟩,by simp only;omega,by simp only [List.length_append,List.length_cons,List.length_nil];omega,hms.mono (by omega)⟩,hr6.mono (by omega)⟩)
  ·refine Tot.bind (t51 hr3 (by omega)) ?_
   rintro ⟨y12,y13,y14⟩ ⟨-,-,-,hr4⟩
   refine Tot.bind (t51 hr4 (by omega)) ?_
   rintro ⟨y15,y16,y17⟩ ⟨-,-,-,hr5⟩
   refine Tot.bind (t119b (m:=10) hr5 (by omega) (by simp) (by decide)) ?_
   rintro ⟨y18,y19,y20⟩ ⟨(hy:List.length y18≤10),hr6⟩
   refine Tot.bind (t51 hr6 (by omega)) ?_
   rintro ⟨y21,y22,y23⟩ ⟨-,-,-,hr7⟩
   refine Tot.bind (t51 hr7 (by omega)) ?_
   rintro ⟨y24,y25,y26⟩ ⟨-,-,-,hr8⟩
   exact Tot.grd (by simp;omega) (Tot.ret ⟨_,_,rfl,⟨⟨f1,htx⟩,by simp only;omega,by simp only;omega,(hms.app ⟨by simp only;omega,by simp,by simp,by simp⟩).mono (by omega)⟩,hr8.mono (by omega)⟩)
  ·exact Tot.ret ⟨_,_,rfl,⟨⟨f1,htx⟩,by simp only;omega,by simp only;omega,hms.mono (by omega)⟩,hr3.mono (by omega)⟩
 rintro _ ⟨⟨a1,a2,a3,a4,a5,a6,a7⟩,⟨b1,b2⟩,rfl,⟨⟨g1,g2⟩,g3,g4,g5⟩,hr4⟩
 refine Tot.bind (t120 hr4 g5 (by omega) (by omega)) ?_
 rintro _ ⟨⟨r1,r2⟩,ms',rfl,hr5,hm'⟩
 exact Tot.ret ⟨⟨⟨g1,g2⟩,g3,g4,hm'.mono (by omega)⟩,hr5.mono (by omega)⟩
theorem t13 (code:List UInt8):Tot (F13 code) fun y=>y.length≤100∧∀ x∈y,x.2.1.length≤255:=by
 unfold F13
 refine Tot.bind (t49 code) ?_
 rintro ⟨y,y1⟩ hr
 refine Tot.bind (t50 hr (by omega)) ?_
 rintro ⟨⟨y2,y3,y4,y5,y6,y7,x⟩,x1,x2⟩ ⟨⟨⟨g1,g2⟩,-⟩,hr1⟩
 simp only at g1 g2 hr1
 refine Tot.bind (t51 hr1 (by omega)) ?_
 rintro ⟨y8,y9,y10⟩ ⟨-,-,-,hr2⟩
 refine Tot.cnd (fun _=>?_) fun _=>Tot.ret ⟨by omega,g2⟩
 refine Tot.bindE (fun z=>z.1.length≤100∧∀ x∈z.1,x.2.1.length≤255) (Tot.loop (fun z=>(z.1.1.length≤64∧∀ x∈z.1.1,x.2.1.length≤255)∧Rd (2000+z.1.1.length) z.2) (fun z=>64 - z.1.1.length) ?_ ⟨⟨by simp only;omega,g2⟩,hr2.mono (by omega)⟩) ?_
 ·rintro ⟨⟨o0,o2,o3,o4,o5,o6,o7⟩,o01,o11⟩ ⟨⟨h1,h2⟩,h3⟩
  simp only at h1 h2 h3
  refine Tot.bind (t51 h3 (by omega)) ?_
  rintro ⟨y11,y12,y13⟩ ⟨(k0:0≤y11),k1,-,hr4⟩
  have k1:y11<3:=k1 (by omega)
  have hw:IntKind.wrap .i64 (60+y11)=60+y11:=wrapI (by omega) (by omega)
  simp only [hw,decide_true,grdO_t,seqU_s]
  refine Tot.cnd (fun h=>?_) fun _=>Tot.ret ⟨by simp only;omega,h2⟩
  simp only [decide_eq_true_eq] at h
  refine Tot.grd (by simp;omega) (Tot.ret ⟨⟨⟨?_,?_⟩,hr4.mono ?_⟩,?_⟩)
  ·simp only [List.length_append,List.length_cons,List.length_nil];omega
  ·intro x hx
   simp only [List.mem_append,List.mem_singleton] at hx
   rcases hx with hx | rfl
   ·exact h2 x hx
   ·simp
  ·simp only [List.length_append,List.length_cons,List.length_nil];omega
  ·simp only [List.length_append,List.length_cons,List.length_nil];omega
 rintro ⟨o0,o2,o3,o4,o5,o6,o7⟩ ⟨h1,h2⟩
 exact Tot.ret ⟨h1,h2⟩
end Go.Proofs.YtdpapeledldifaaGreat
end
section
namespace Go.Stow
theorem entAt_app {p q:List Ent} {i:Int} (h:(entAt p i).1≠0):entAt (p++q) i=entAt p i:=by
 unfold entAt at h ⊢
 by_cases hi:1≤i∧i≤p.length
 ·rw [if_pos hi,if_pos ⟨hi.1,by simp only [List.length_append];omega⟩,List.getElem?_append_left (by omega)]
 ·rw [if_neg hi] at h;exact absurd rfl h
theorem TxtAt.app {p q:List Ent} {i:Int} {Q:List UInt8→Prop} (h:TxtAt p i Q):TxtAt (p++q) i Q:=by
 unfold TxtAt
 rw [entAt_app (by rw [h.1];decide)]
 exact h
theorem ClsAt.app {p q:List Ent} {i:Int} (h:ClsAt p i):ClsAt (p++q) i:=by
 unfold ClsAt
 rw [entAt_app (by rw [h.1];decide)]
 exact ⟨h.1,h.2.app⟩
theorem EntOk.app {p q:List Ent} {x:Ent} (h:EntOk p x):EntOk (p++q) x:=by
 unfold EntOk at h ⊢
 by_cases h1:x.1=1
 ·rw [if_pos h1] at h ⊢;exact h
 rw [if_neg h1] at h ⊢
 by_cases h2:x.1=2
 ·rw [if_pos h2] at h ⊢;exact ⟨h.1,h.2.1,h.2.2.app⟩
 rw [if_neg h2] at h ⊢
 by_cases h3:x.1=3
 ·rw [if_pos h3] at h ⊢;exact ⟨h.1,h.2.1.app,h.2.2.app⟩
 rw [if_neg h3] at h ⊢
 by_cases h4:x.1=4
 ·rw [if_pos h4] at h ⊢
  obtain ⟨g1,g2,g3,g4⟩:=h
  have e:=entAt_app (q:=q) (show (entAt p x.2.2.2).1≠0 by omega)
  rw [e]
  exact ⟨g1,g2.app,g3,g4.app⟩
 rw [if_neg h4] at h ⊢
 by_cases h5:x.1=5∨x.1=6
 ·rw [if_pos h5] at h ⊢
  obtain ⟨g1,g2,g3,g4⟩:=h
  have e:=entAt_app (q:=q) (show (entAt p x.2.2.2).1≠0 by omega)
  rw [e]
  exact ⟨g1,g2.app,g3,g4.app⟩
 rw [if_neg h5] at h;exact h.elim
theorem poolC_first {p : List Ent} {n : Nat} (hn : n < p.length) (hb : ¬ EntOk p p[n]) : ∀ (m i : Nat), i ≤ n → n < i + m → (∀ j, i ≤ j → (h : j < n) → EntOk p (p[j]'(by omega))) → poolC p m i = (n : Int) + 1
 | 0, i, h1, h2, _ => by omega
 | m + 1, i, h1, h2, h => by
  unfold poolC
  rw [dif_pos (by omega)]
  by_cases e : i = n
  ·subst e; rw [if_neg hb]
  ·rw [if_pos (h i (Nat.le_refl _) (by omega))]
   exact poolC_first hn hb m (i + 1) (by omega) (by omega) fun j g1 g2 => h j (by omega) g2
theorem poolC_ran (p : List Ent) : ∀ (m i : Nat), poolC p m i = 0 ∨ ((i : Int) < poolC p m i ∧ poolC p m i ≤ i + m ∧ poolC p m i ≤ p.length)
 | 0, _ => .inl rfl
 | m + 1, i => by
  unfold poolC
  by_cases hi : i < p.length
  ·rw [dif_pos hi]
   by_cases he : EntOk p p[i]
   ·rw [if_pos he]
    have := poolC_ran p m (i + 1)
    omega
   ·rw [if_neg he]; right; omega
  ·rw [dif_neg hi]; exact .inl rfl
noncomputable def poolR (p:List Ent):Int:=if poolC p (min p.length 60) 0=0 then (if (60:Int)<p.length then 61 else 0) else poolC p (min p.length 60) 0
theorem poolR_ran (p:List Ent):0≤poolR p∧poolR p≤p.length:=by
 unfold poolR
 have:=poolC_ran p (min p.length 60) 0
 split
 ·split <;> omega
 ·omega
theorem poolR_small {p:List Ent} (h:p.length≤60):poolR p=poolC p p.length 0:=by
 unfold poolR
 rw [Nat.min_eq_left h]
 split
 ·rw [if_neg (by omega)];omega
 ·rfl
theorem poolR_ok {p:List Ent} (h:p.length≤60):poolR p=0↔PoolOk p:=by rw [poolR_small h,pool_ok]
def fresh:List UInt8:=[102,114,101,115,104]
theorem nm_fresh:Nm fresh:=by
 refine ⟨by decide,fun i hi=>.inl ?_⟩
 have:i=0∨i=1∨i=2∨i=3∨i=4:=by simp only [fresh,List.length_cons,List.length_nil] at hi;omega
 rcases this with rfl | rfl | rfl | rfl | rfl <;> simp [fresh,let1]
theorem pool_good {p:List Ent} (h:PoolOk p):PoolOk (p++[(1,fresh,0,0)]):=by
 intro i hi
 by_cases hp:i<p.length
 ·rw [List.getElem_append_left hp];exact (h i hp).app
 ·have:i=p.length:=by simp only [List.length_append,List.length_cons,List.length_nil] at hi;omega
  subst this
  rw [List.getElem_append_right (Nat.le_refl _)]
  simp only [Nat.sub_self,List.getElem_cons_zero]
  unfold EntOk
  rw [if_pos rfl]
  exact ⟨rfl,rfl,.inl nm_fresh⟩
theorem pool_bad {p:List Ent} (h:PoolOk p) (hl:p.length<60):poolR (p++[(2,[],(p.length:Int)+1,0)])=(p.length:Int)+1:=by
 have hlen:(p++[((2,[],(p.length:Int)+1,0):Ent)]).length=p.length+1:=by simp
 rw [poolR_small (by omega),hlen]
 have hn:p.length<(p++[((2,[],(p.length:Int)+1,0):Ent)]).length:=by omega
 refine poolC_first (n:=p.length) hn ?_ (p.length+1) 0 (by omega) (by omega) ?_
 ·have e:(p++[((2,[],(p.length:Int)+1,0):Ent)])[p.length]=(2,[],(p.length:Int)+1,0):=by
   rw [List.getElem_append_right (Nat.le_refl _)];simp only [Nat.sub_self,List.getElem_cons_zero]
  have e2:=entAt_get hn
  rw [e] at e2 ⊢
  unfold EntOk
  rw [if_neg (by simp),if_pos rfl]
  rintro ⟨_,_,h1,_⟩
  simp only at h1
  rw [e2] at h1
  exact absurd h1 (by simp)
 ·intro j _ hj
  rw [List.getElem_append_left hj];exact (h j hj).app
end Go.Stow
end
