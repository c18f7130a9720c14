/- Part 33 of the proof that the law FnFileGet holds of every input; no condition. -/
import Derived.Test.YtdpapeledldifaaGreatX31
set_option autoImplicit true
set_option relaxedAutoImplicit true
set_option linter.all false
section
namespace Go.Stow
end Go.Stow
namespace Go.Proofs.YtdpapeledldifaaGreat
open Go Go.AM Go.TM Go.Stow
theorem q176 (c:Cls) (hp:bndP c.1) (hf:0≤c.2.1∧c.2.1≤255) (hl:c.2.2.2.2.2.1.length≤1048576):F176 c=some (decide (zEe c)):=by
 obtain ⟨c0,c1,c2,c3,c4,c5,c6⟩:=c
 obtain ⟨hf0,hf1⟩:=hf
 simp only at hp hf0 hf1 hl
 simp only [F176,zAI]
 refine zPK (fun i=>((i:Int),c0,c1,c2,c3,c4,c5,c6)) () false c5.length (FldOk (c0,c1,c2,c3,c4,c5,c6)) rfl ?_ ?_ ?_ ?_
 ·simp only [Int.lt_irrefl,if_false]
 ·intro i hi
  have h1:(i:Int)<c5.length:=by omega
  have h0:(0:Int)≤i:=by omega
  simp only [h1,h0,if_true,decide_true,zAF,Int.toNat_natCast]
  rw [zCy (0,0,0) hi]
  have hF:FldOk (c0,c1,c2,c3,c4,c5,c6) i↔(zBl c0 (c5.getD i (0,0,0)).2.1 Nm∧zBl c0 (c5.getD i (0,0,0)).2.2 Tok∧(0≤(c5.getD i (0,0,0)).1∧(c5.getD i (0,0,0)).1≤3)∧(has c1 1→(c5.getD i (0,0,0)).1=1)∧∀ k,k<i→txt c0 (c5.getD k (0,0,0)).2.1≠txt c0 (c5.getD i (0,0,0)).2.1):=Iff.rfl
  rw [hF]
  generalize c5.getD i (0,0,0)=x
  simp only [q131 _ _ hp,n127 _ (zDN hp _),n128 _ (zDN hp _),q107,zAB,zAl,zAI]
  have t1:Nm (txt c0 x.2.1)↔zBl c0 x.2.1 Nm:=zGP zGE
  have t2:Tok (txt c0 x.2.2)↔zBl c0 x.2.2 Tok:=zGP zDo
  by_cases b1:Nm (txt c0 x.2.1)
  ·rw [if_pos b1]
   by_cases b2:Tok (txt c0 x.2.2)
   ·rw [if_pos b2]
    by_cases b3:0≤x.1∧x.1≤3
    ·rw [if_pos b3,zAD]
     simp only [q108 hf0 hf1 (show (1:Int)≤1 by omega),zAB,zAI]
     by_cases b4:has c1 1→x.1=1
     ·rw [show (if has c1 1 then if x.1=1 then some (Sum.inl ((i:Int),(c0,c1,c2,c3,c4,c5,c6),x.1,x.2.1,x.2.2)) else some (Sum.inr (Sum.inr (Sum.inr (Sum.inr false)))) else some (Sum.inl ((i:Int),(c0,c1,c2,c3,c4,c5,c6),x.1,x.2.1,x.2.2)):Option ((Int×Cls×Int×Int×Int) ⊕ ((Int×Cls) ⊕ ((Int×Cls) ⊕ (Unit ⊕ Bool)))))=some (Sum.inl ((i:Int),(c0,c1,c2,c3,c4,c5,c6),x.1,x.2.1,x.2.2)) by
       by_cases g:has c1 1
       ·rw [if_pos g,if_pos (b4 g)]
       ·rw [if_neg g],zAD]
      simp only
      refine zUT (F:=(bindE · _)) (fun k=>((i:Int),(k:Int),(c0,c1,c2,c3,c4,c5,c6),x.1,x.2.1,x.2.2)) ((i:Int),c0,c1,c2,c3,c4,c5,c6) (.inr (.inr (.inr false))) i (fun k=>txt c0 (c5.getD k (0,0,0)).2.1≠txt c0 x.2.1) rfl ?_ ?_ ?_ ?_ ?_
      ·simp only [Int.lt_irrefl,if_false]
      ·intro k hk
       have k1:(k:Int)<i:=by omega
       have k0:(0:Int)≤k:=by omega
       have hkl:k<c5.length:=by omega
       simp only [k1,k0,if_true,decide_true,zAF,Int.toNat_natCast]
       rw [zCy (0,0,0) hkl]
       simp only [q131 _ _ hp,zAB,eq_self,decide_true,zAF,zAc]
       by_cases e:txt c0 (c5.getD k (0,0,0)).2.1=txt c0 x.2.1
       ·rw [if_pos e];exact .inr ⟨fun h=>h e,rfl⟩
       ·rw [if_neg e,wI (by omega) (by omega)];exact .inl ⟨e,rfl⟩
      ·exact ⟨fun h=>h.2.2.2.2,fun h=>⟨t1.1 b1,t2.1 b2,b3,b4,h⟩⟩
      ·simp only [zAD]
       rw [wI (by omega) (by omega)]
       rfl
      ·rfl
     ·have g:has c1 1:=Classical.byContradiction fun h=>b4 fun h'=>absurd h' h
      have g2:¬ x.1=1:=fun h=>b4 fun _=>h
      rw [if_pos g,if_neg g2]
      exact .inr ⟨fun h=>g2 (h.2.2.2.1 g),rfl⟩
    ·rw [if_neg b3]
     exact .inr ⟨fun h=>b3 h.2.2.1,rfl⟩
   ·rw [if_neg b2]
    exact .inr ⟨fun h=>b2 (t2.2 h.2.1),rfl⟩
  ·rw [if_neg b1]
   exact .inr ⟨fun h=>b1 (t1.2 h.1),rfl⟩
 ·intro hall
  exact sd (iff_of_true rfl hall)
 ·intro hall
  exact sd (iff_of_false (by simp) hall)
end Go.Proofs.YtdpapeledldifaaGreat
end
section
namespace Go.Stow
def FldOkI (c:ClsP) (i:Nat):Prop :=
 let f:=c.2.2.2.2.2.1.getD i (0,0,0)
 zBl c.1 f.2.1 Nm∧zBl c.1 f.2.2 Tok∧(0≤f.1∧f.1≤3)∧(has c.2.1 1→f.1=1)∧∀ k,k<i→zSG c.1 (c.2.2.2.2.2.1.getD k (0,0,0)).2.1≠zSG c.1 f.2.1
noncomputable instance (c:ClsP) (i:Nat):Decidable (FldOkI c i):=Classical.propDecidable _
def MthOkI (c:ClsP) (i:Nat):Prop :=
 let m:=c.2.2.2.2.2.2.getD i mth0
 zBl c.1 m.2.1 Nm∧zBl c.1 m.2.2.1 Dsc∧zEC c m ∧
 ∀ k,k<i→¬ (zSG c.1 (c.2.2.2.2.2.2.getD k mth0).2.1=zSG c.1 m.2.1∧zSG c.1 (c.2.2.2.2.2.2.getD k mth0).2.2.1=zSG c.1 m.2.2.1)
noncomputable instance (c:ClsP) (i:Nat):Decidable (MthOkI c i):=Classical.propDecidable _
end Go.Stow
namespace Go.Proofs.YtdpapeledldifaaGreat
open Go Go.AM Go.TM Go.Stow
theorem q244 (c:Cls) (m:Mth) (hp:bndP c.1) (hf:0≤c.2.1∧c.2.1≤255) (hm:0≤m.1∧m.1≤255):F244 (c,m)=some (decide (zEC c m)):=by
 obtain ⟨c0,c1,c2,c3,c4,c5,c6⟩:=c
 obtain ⟨m0,m1,m2,m3,m4,m5,m6,m7⟩:=m
 obtain ⟨hf0,hf1⟩:=hf
 obtain ⟨hm0,hm1⟩:=hm
 simp only at hp hf0 hf1 hm0 hm1
 have hF:zEC (c0,c1,c2,c3,c4,c5,c6) (m0,m1,m2,m3,m4,m5,m6,m7)↔((0≤m0∧m0≤15)∧(txt c0 m1=[98,101,103,105,110]→m0=1∧txt c0 m2=[40,41,86])∧(has m0 8→m0=8∧has c1 4)∧(¬ has m0 8→has c1 1→m0=1)):=Iff.rfl
 simp only [F244,q131 _ _ hp,q107,zAB,zAl,zAI]
 by_cases b1:0≤m0∧m0≤15
 ·rw [if_pos b1]
  have e8:=q108 hm0 hm1 (show (1:Int)≤8 by omega)
  have e4:=q108 hf0 hf1 (show (1:Int)≤4 by omega)
  have e1:=q108 hf0 hf1 (show (1:Int)≤1 by omega)
  have go:(txt c0 m1=[98,101,103,105,110]→m0=1∧txt c0 m2=[40,41,86])→(if has m0 8 then if m0=8 then some (decide (has c1 4)) else some false else if has c1 1 then some (decide (m0=1)) else some true:Option Bool)=some (decide (zEC (c0,c1,c2,c3,c4,c5,c6) (m0,m1,m2,m3,m4,m5,m6,m7))):=by
   intro b2
   by_cases b5:has m0 8
   ·rw [if_pos b5]
    by_cases b8:m0=8
    ·rw [if_pos b8]
     refine sd ?_
     rw [hF,decide_eq_true_iff]
     exact ⟨fun h=>⟨b1,b2,fun _=>⟨b8,h⟩,fun h=>absurd b5 h⟩,fun h=>(h.2.2.1 b5).2⟩
    ·rw [if_neg b8]
     exact sd (by rw [hF];exact iff_of_false (by simp) fun h=>b8 (h.2.2.1 b5).1)
   ·rw [if_neg b5]
    by_cases b7:has c1 1
    ·rw [if_pos b7]
     refine sd ?_
     rw [hF,decide_eq_true_iff]
     exact ⟨fun h=>⟨b1,b2,fun h'=>absurd h' b5,fun _ _=>h⟩,fun h=>h.2.2.2 b5 b7⟩
    ·rw [if_neg b7]
     exact sd (by rw [hF];exact iff_of_true rfl ⟨b1,b2,fun h'=>absurd h' b5,fun _ h=>absurd h b7⟩)
  by_cases b2:txt c0 m1=[98,101,103,105,110]
  ·rw [if_pos b2]
   by_cases b3:m0=1
   ·rw [if_pos b3]
    by_cases b4:txt c0 m2=[40,41,86]
    ·rw [if_pos b4,zAD]
     simp only [e8,e4,e1,zAB,zAI]
     exact go fun _=>⟨b3,b4⟩
    ·rw [if_neg b4,zAG]
     exact sd (by rw [hF];exact iff_of_false (by simp) fun h=>b4 (h.2.1 b2).2)
   ·rw [if_neg b3,zAG]
    exact sd (by rw [hF];exact iff_of_false (by simp) fun h=>b3 (h.2.1 b2).1)
  ·rw [if_neg b2,zAD]
   simp only [e8,e4,e1,zAB,zAI]
   exact go fun h=>absurd h b2
 ·rw [if_neg b1]
  exact sd (by rw [hF];exact iff_of_false (by simp) fun h=>b1 h.1)
theorem q177 (c:Cls) (hp:bndP c.1) (hf:0≤c.2.1∧c.2.1≤255) (hl:c.2.2.2.2.2.2.length≤1048576) (hm:∀ m∈c.2.2.2.2.2.2,0≤m.1∧m.1≤255):F177 c=some (decide (zFw c)):=by
 obtain ⟨c0,c1,c2,c3,c4,c5,c6⟩:=c
 simp only at hp hl hm
 simp only [F177,zAI]
 refine zPK (fun i=>((i:Int),c0,c1,c2,c3,c4,c5,c6)) () false c6.length (MthOk (c0,c1,c2,c3,c4,c5,c6)) rfl ?_ ?_ ?_ ?_
 ·simp only [Int.lt_irrefl,if_false]
 ·intro i hi
  have h1:(i:Int)<c6.length:=by omega
  have h0:(0:Int)≤i:=by omega
  have hmi:0≤(c6.getD i mth0).1∧(c6.getD i mth0).1≤255:=by
   rw [List.getD_eq_getElem?_getD,List.getElem?_eq_getElem hi]
   exact hm _ (List.getElem_mem hi)
  simp only [h1,h0,if_true,decide_true,zAF,Int.toNat_natCast]
  rw [zCy mth0 hi]
  have hF:MthOk (c0,c1,c2,c3,c4,c5,c6) i↔(zBl c0 (c6.getD i mth0).2.1 Nm∧zBl c0 (c6.getD i mth0).2.2.1 Dsc∧zEC (c0,c1,c2,c3,c4,c5,c6) (c6.getD i mth0) ∧
   ∀ k,k<i→¬ (txt c0 (c6.getD k mth0).2.1=txt c0 (c6.getD i mth0).2.1∧txt c0 (c6.getD k mth0).2.2.1=txt c0 (c6.getD i mth0).2.2.1)):=Iff.rfl
  rw [hF]
  generalize c6.getD i mth0=x at hmi
  have z244:F244 ((c0,c1,c2,c3,c4,c5,c6),x.1,x.2.1,x.2.2.1,x.2.2.2.1,x.2.2.2.2.1,x.2.2.2.2.2.1,x.2.2.2.2.2.2.1,x.2.2.2.2.2.2.2)=some (decide (zEC (c0,c1,c2,c3,c4,c5,c6) x)):=q244 (c0,c1,c2,c3,c4,c5,c6) x hp hf hmi
  simp only [q131 _ _ hp,n127 _ (zDN hp _),n129 _ (zDN hp _),z244,zAB,zAl,zAI]
  have t1:Nm (txt c0 x.2.1)↔zBl c0 x.2.1 Nm:=zGP zGE
  have t2:Dsc (txt c0 x.2.2.1)↔zBl c0 x.2.2.1 Dsc:=zGP zFI
  by_cases b1:Nm (txt c0 x.2.1)
  ·rw [if_pos b1]
   by_cases b2:Dsc (txt c0 x.2.2.1)
   ·rw [if_pos b2]
    by_cases b3:zEC (c0,c1,c2,c3,c4,c5,c6) x
    ·rw [if_pos b3,zAD]
     simp only
     refine zUT (F:=(bindE · _)) (fun k=>((i:Int),(k:Int),(c0,c1,c2,c3,c4,c5,c6),x.1,x.2.1,x.2.2.1,x.2.2.2.1,x.2.2.2.2.1,x.2.2.2.2.2.1,x.2.2.2.2.2.2.1,x.2.2.2.2.2.2.2)) ((i:Int),c0,c1,c2,c3,c4,c5,c6) (.inr (.inr (.inr false))) i (fun k=>¬ (txt c0 (c6.getD k mth0).2.1=txt c0 x.2.1∧txt c0 (c6.getD k mth0).2.2.1=txt c0 x.2.2.1)) rfl ?_ ?_ ?_ ?_ ?_
     ·simp only [Int.lt_irrefl,if_false]
     ·intro k hk
      have k1:(k:Int)<i:=by omega
      have k0:(0:Int)≤k:=by omega
      have hkl:k<c6.length:=by omega
      simp only [k1,k0,if_true,decide_true,zAF,Int.toNat_natCast]
      rw [zCy mth0 hkl]
      simp only [zCy mth0 hkl,q131 _ _ hp,zAB,eq_self,decide_true,zAF,zAc]
      by_cases e:txt c0 (c6.getD k mth0).2.1=txt c0 x.2.1
      ·rw [if_pos e]
       by_cases e2:txt c0 (c6.getD k mth0).2.2.1=txt c0 x.2.2.1
       ·rw [if_pos e2,zAG];exact .inr ⟨fun h=>h ⟨e,e2⟩,rfl⟩
       ·rw [if_neg e2,zAD]
        simp only
        rw [wI (by omega) (by omega)];exact .inl ⟨fun h=>e2 h.2,rfl⟩
      ·rw [if_neg e,zAD]
       simp only
       rw [wI (by omega) (by omega)];exact .inl ⟨fun h=>e h.1,rfl⟩
     ·exact ⟨fun h=>h.2.2.2,fun h=>⟨t1.1 b1,t2.1 b2,b3,h⟩⟩
     ·simp only [zAD]
      rw [wI (by omega) (by omega)]
      rfl
     ·rfl
    ·rw [if_neg b3]
     exact .inr ⟨fun h=>b3 h.2.2.1,rfl⟩
   ·rw [if_neg b2]
    exact .inr ⟨fun h=>b2 (t2.2 h.2.1),rfl⟩
  ·rw [if_neg b1]
   exact .inr ⟨fun h=>b1 (t1.2 h.1),rfl⟩
 ·intro hall
  exact sd (iff_of_true rfl hall)
 ·intro hall
  exact sd (iff_of_false (by simp) hall)
end Go.Proofs.YtdpapeledldifaaGreat
end
section
namespace Go.Stow
theorem zUW (op:Int) : -1≤argN op∧argN op≤2:=by unfold argN;repeat' split <;> omega
end Go.Stow
namespace Go.Proofs.YtdpapeledldifaaGreat
open Go Go.AM Go.TM Go.Stow
theorem q251 (op:Int):F251 op=some (argN op):=by
 simp only [F251,q107,zAB,zAI,zAw,zAD,zAG]
 unfold argN
 repeat' split
 all_goals first | rfl | (exfalso;omega)
theorem q252 (s:List UInt8) (op:Int) (hs:s.length≤2):F252 (s,op)=some (numB op s):=by
 match s,hs with
 | [],_=>rfl
 | [a],_ =>
   have ha:=a.toNat_lt
   have e0:∀ k:UInt8→Option Int,atO [a] 0 k=k a:=fun k=>rfl
   simp (discharger:=omega) only [F252,List.length_cons,List.length_nil,e0,wI,zAI,zAw,zAD,numB]
   rw [if_neg (by omega),if_neg (by omega)]
   rw [if_neg (show ¬ (32768:Int)≤(a.toNat:Int) by omega)]
   split <;> rfl
 | [a,b],_ =>
   have ha:=a.toNat_lt
   have hb:=b.toNat_lt
   have e0:∀ k:UInt8→Option Int,atO [a,b] 0 k=k a:=fun k=>rfl
   have e1:∀ k:UInt8→Option (Int×Int ⊕ Int),atO [a,b] 1 k=k b:=fun k=>rfl
   simp (discharger:=omega) only [F252,List.length_cons,List.length_nil,e0,e1,wI,zAI,zAw,zAD,numB]
   rw [if_neg (by omega),if_pos (by omega)]
   by_cases h1:op=1
   ·rw [if_pos h1]
    by_cases h2:(32768:Int)≤(a.toNat:Int)*256+(b.toNat:Int)
    ·rw [if_pos h2,if_pos ⟨h1,h2⟩]
    ·rw [if_neg h2,if_neg fun h=>h2 h.2]
   ·rw [if_neg h1,if_neg fun h=>h1 h.1]
theorem ops_loop {X Y R:Type} {f:X→Option (X ⊕ (Y ⊕ R))} {k:Y→Option R} (s:List UInt8) (mk:List InsP→Nat→X) (bad:R) (good:List InsP→R)
  (hend:∀ out,out.length≤s.length→bindE (zAE f (mk out s.length)) k=some (good out))
  (hbad:∀ out a (h:a<s.length),out.length≤a→(argN s[a].toNat<0∨((s.drop (a+1)).length:Int)<argN s[a].toNat)→bindE (zAE f (mk out a)) k=some bad)
  (hstep:∀ out a (h:a<s.length) (n:Nat),out.length≤a→argN s[a].toNat=n→n≤(s.drop (a+1)).length→f (mk out a)=some (.inl (mk (out++[((a:Int),(s[a].toNat:Int),numB s[a].toNat ((s.drop (a+1)).take n))]) (a+1+n)))) :
  ∀ (m a:Nat) (out:List InsP),s.length - a≤m→a≤s.length→out.length≤a→bindE (zAE f (mk out a)) k=some (match opsN m (a:Int) (s.drop a) with | some r=>good (out++r) | none=>bad):=by
 intro m
 induction m with
 | zero =>
   intro a out hm ha ho
   have:a=s.length:=by omega
   subst this
   rw [hend out ho,List.drop_eq_nil_of_le (Nat.le_refl _)]
   simp only [opsN,List.append_nil]
 | succ m ih =>
   intro a out hm ha ho
   by_cases h:a<s.length
   ·rw [zBN h]
    simp only [opsN]
    by_cases hb:argN s[a].toNat<0∨((s.drop (a+1)).length:Int)<argN s[a].toNat
    ·rw [if_pos hb,hbad out a h ho hb]
    ·rw [if_neg hb]
     have hn:argN s[a].toNat=((argN s[a].toNat).toNat:Int):=by omega
     generalize (argN s[a].toNat).toNat=n at hn
     have hle:n≤(s.drop (a+1)).length:=by omega
     have hd:(s.drop (a+1)).drop n=s.drop (a+1+n):=by rw [List.drop_drop]
     have hlen:a+1+n≤s.length:=by simp only [List.length_drop] at hle;omega
     rw [zJF (hstep out a h n ho hn hle),ih (a+1+n) _ (by omega) hlen (by simp only [List.length_append,List.length_cons,List.length_nil];omega),hn,hd]
     rw [show (((a+1+n:Nat)):Int)=(a:Int)+1+n by omega]
     cases opsN m ((a:Int)+1+n) (s.drop (a+1+n)) with
     | none=>rfl
     | some q=>simp only [Option.map_some,List.append_assoc,List.singleton_append]
   ·have:a=s.length:=by omega
    subst this
    rw [hend out ho,List.drop_eq_nil_of_le (Nat.le_refl _)]
    simp only [opsN,List.append_nil]
theorem q193 (s:List UInt8) (hs:s.length≤1048576):F193 s=some (opsV s):=by
 simp only [F193,zAI]
 refine (ops_loop s (fun out a=>(s,out,(a:Int))) ([],false) (fun r=>(r,decide ((0:Int)<r.length))) ?_ ?_ ?_ s.length 0 [] (by omega) (by omega) (by simp)).trans ?_
 ·intro out ho
  rw [zCn (y:=.inl out) (by simp only [Int.lt_irrefl,if_false]),zAD]
 ·intro out a h ho hb
  have h1:(a:Int)<s.length:=by omega
  have h0:(0:Int)≤a:=by omega
  have hr:=s[a].toNat_lt
  rw [zCn (y:=.inr ([],false)),zAG]
  simp (discharger:=omega) only [h1,h0,if_true,decide_true,zAF,Int.toNat_natCast,zAQ,wI,q251,zAB]
  by_cases h2:argN s[a].toNat<0
  ·rw [if_pos h2,zAG]
  ·have h3:=(zUW s[a].toNat).2
   have h4:(s.length:Int)<(a:Int)+1+argN s[a].toNat:=by
    have:=hb.resolve_left h2
    simp only [List.length_drop] at this
    omega
   rw [if_neg h2,wI (by omega) (by omega),if_pos h4,zAG]
 ·intro out a h n ho hn hle
  have h1:(a:Int)<s.length:=by omega
  have h0:(0:Int)≤a:=by omega
  have hr:=s[a].toNat_lt
  have hn2:=(zUW s[a].toNat).2
  rw [hn] at hn2
  have h2:¬ ((n:Int)<0):=by omega
  have hle':=hle
  simp only [List.length_drop] at hle'
  have h4:¬ (s.length:Int)<(a:Int)+1+n:=by omega
  have g1:(0:Int)≤(a:Int)+1:=by omega
  have g2:(a:Int)+1≤(a:Int)+1+n:=by omega
  have g3:(a:Int)+1+n≤s.length:=by omega
  have t1:((a:Int)+1).toNat=a+1:=by omega
  have t2:((a:Int)+1+n).toNat=a+1+n:=by omega
  have hd:(s.take (a+1+n)).drop (a+1)=(s.drop (a+1)).take n:=by rw [List.drop_take];congr 1;omega
  have hl2:((s.drop (a+1)).take n).length≤2:=by simp only [List.length_take];omega
  have q5:out.length+1≤9223372036854775807:=by omega
  have q6:(out.length+1)*24≤140737488355328:=by omega
  simp (discharger:=omega) only [h1,h0,if_true,decide_true,zAF,Int.toNat_natCast,zAQ,wI,q251,zAB,hn,h2,h4,if_false,zAD,g1,g2,g3,Bool.and_self,t1,t2,hd,q252 _ _ hl2,q5,q6]
  rfl
 ·rw [List.drop_zero]
  unfold opsV
  simp only [List.nil_append]
  show some (match opsN s.length (0:Int) s with | some r=>_ | none=>_)=_
  cases opsN s.length 0 s with
  | none=>rfl
  | some r =>
    cases r with
    | nil=>rfl
    | cons x r=>simp
end Go.Proofs.YtdpapeledldifaaGreat
end
section
namespace Go.Stow
theorem zBy {α:Type} {l:List α} (d:α) {P:α→Prop}:(∀ x∈l,P x)↔∀ i,i<l.length→P (l.getD i d):=by
 constructor
 ·intro h i hi
  rw [List.getD_eq_getElem?_getD,List.getElem?_eq_getElem hi]
  exact h _ (List.getElem_mem hi)
 ·intro h x hx
  obtain ⟨i,hi,rfl⟩:=List.mem_iff_getElem.1 hx
  have:=h i hi
  rwa [List.getD_eq_getElem?_getD,List.getElem?_eq_getElem hi] at this
theorem zRJ:∀ (m:Nat) (a:Int) (s:List UInt8) (r:List InsP),opsN m a s=some r→r.length≤m
 | 0,a,[],r,h=>by simp only [opsN,Option.some.injEq] at h;simp [← h]
 | _+1,a,[],r,h=>by simp only [opsN,Option.some.injEq] at h;simp [← h]
 | 0,a,_ :: _,r,h=>by simp [opsN] at h
 | m+1,a,x :: l,r,h=>by
   simp only [opsN] at h
   split at h
   ·cases h
   ·cases ho:opsN m (a+1+argN x.toNat) (l.drop (argN x.toNat).toNat) with
    | none=>rw [ho] at h;cases h
    | some q =>
      rw [ho] at h
      simp only [Option.map_some,Option.some.injEq] at h
      have:=zRJ m _ _ q ho
      rw [← h]
      simp only [List.length_cons]
      omega
theorem opsV_len (s:List UInt8):(opsV s).1.length≤s.length:=by
 unfold opsV
 cases h:opsN s.length 0 s with
 | none=>simp
 | some r =>
   cases r with
   | nil=>simp
   | cons x r=>exact zRJ _ _ _ _ h
theorem zRK:∀ (k:Nat) (l:List UInt8) (ts:List (List UInt8)) (b:List UInt8),more k l=some (ts,b)→ts.length≤k
 | 0,[],ts,b,h=>by simp [more] at h
 | _+1,[],ts,b,h=>by simp [more] at h
 | 0,x :: l,ts,b,h=>by
   simp only [more] at h
   split at h
   ·simp only [Option.some.injEq,Prod.mk.injEq] at h;rw [← h.1];simp
   ·cases h
 | k+1,x :: l,ts,b,h=>by
   rw [zOY] at h
   split at h
   ·simp only [Option.some.injEq,Prod.mk.injEq] at h;rw [← h.1];simp
   ·cases ho:one (x :: l) with
    | none=>rw [ho] at h;cases h
    | some p =>
      rw [ho] at h
      simp only [Option.bind_some] at h
      cases hm:more k p.2 with
      | none=>rw [hm] at h;cases h
      | some q =>
        obtain ⟨q1,q2⟩:=q
        rw [hm] at h
        simp only [Option.map_some,Option.some.injEq,Prod.mk.injEq] at h
        have:=zRK k _ _ _ hm
        rw [← h.1]
        simp only [List.length_cons]
        omega
theorem dsc_len (s:List UInt8):(dsc s).1.length≤4:=by
 cases s with
 | nil=>simp [dsc]
 | cons x l =>
   simp only [dsc]
   split
   ·cases h:more 4 l with
    | none=>simp
    | some p =>
      obtain ⟨ts,b⟩:=p
      simp only
      split
      ·exact zRK 4 l ts b h
      ·simp
   ·simp
end Go.Stow
namespace Go.Proofs.YtdpapeledldifaaGreat
open Go Go.AM Go.TM Go.Stow
theorem q254 (l:List InsP) (a:Int) (hl:l.length≤1048576):F254 (l,a)=some (opI l a):=by
 simp only [F254,zAI]
 refine (zOw (fun i=>(l,a,(i:Int))) () l (fun x=>decide (x.1=a)) (fun i=>(i:Int)) rfl ?_ ?_).trans ?_
 ·simp only [Int.lt_irrefl,if_false]
 ·intro i hi
  have i1:(i:Int)<l.length:=by omega
  have i0:(0:Int)≤i:=by omega
  simp (discharger:=omega) only [i1,i0,if_true,decide_true,zAF,Int.toNat_natCast,zAQ,wI,decide_eq_true_eq]
  split <;> rfl
 ·unfold opI
  cases l.findIdx? (fun x=>decide (x.1=a)) <;> rfl
theorem q291 (op:Int):F291 op=some (want op):=by
 simp only [F291,zAI,zAL,zAw,zAD,zAG]
 unfold want
 repeat' split
 all_goals first | rfl | (exfalso;omega)
theorem q246 (c:Cls) (m:Mth) (l:List InsP) (x:InsP) (hp:bndP c.1) (hl:l.length≤1048576):F246 (c,m,l,x)=some (decide (zMi c.1 m.2.2.2.2.1 l x)):=by
 obtain ⟨c0,c1,c2,c3,c4,c5,c6⟩:=c
 obtain ⟨m0,m1,m2,m3,m4,m5,m6,m7⟩:=m
 obtain ⟨x0,x1,x2⟩:=x
 simp only at hp
 have hI:zMi c0 m4 l (x0,x1,x2)↔((3≤x1∧x1≤6→x2<m4)∧(14≤x1∧x1≤18→0≤opI l x2)∧(want x1≠0→(zBH c0 x2).1=want x1)):=Iff.rfl
 simp only [F246,q107,q254 _ _ hl,q291,q133 _ _ _ hp,zAB,zAI]
 by_cases h1:3≤x1∧x1≤6
 ·rw [if_pos h1]
  have h2:¬ (14≤x1∧x1≤18):=by omega
  have h3:want x1=0:=by unfold want;repeat' split <;> omega
  exact sd (by rw [hI,decide_eq_true_iff];simp [h1,h2,h3])
 ·rw [if_neg h1]
  by_cases h2:14≤x1∧x1≤18
  ·rw [if_pos h2]
   have h3:want x1=0:=by unfold want;repeat' split <;> omega
   exact sd (by rw [hI,decide_eq_true_iff];simp [h1,h2,h3])
  ·rw [if_neg h2]
   by_cases h3:want x1=0
   ·rw [if_pos h3]
    exact sd (by rw [hI];simp [h1,h2,h3])
   ·rw [if_neg h3]
    exact sd (by rw [hI,decide_eq_true_iff];simp [h1,h2,h3])
theorem q247 (c:Cls) (m:Mth) (l:List InsP) (t:Trp) (hp:bndP c.1) (hl:l.length≤1048576):F247 (c,m,l,t)=some (decide (zEx c.1 m.2.2.2.2.2.1.length l t)):=by
 obtain ⟨c0,c1,c2,c3,c4,c5,c6⟩:=c
 obtain ⟨m0,m1,m2,m3,m4,m5,m6,m7⟩:=m
 obtain ⟨t0,t1,t2,t3⟩:=t
 simp only at hp
 have hI:zEx c0 m5.length l (t0,t1,t2,t3)↔(t0<t1∧0≤opI l t0∧(t1=(m5.length:Int)∨0≤opI l t1)∧0≤opI l t2∧(t3=0∨zDB c0 t3)):=Iff.rfl
 simp only [F247,q254 _ _ hl,zAB,zAl,zAI]
 by_cases h1:t1≤t0
 ·rw [if_pos h1,zAG]
  exact sd (by rw [hI];exact iff_of_false (by simp) fun h=>by omega)
 rw [if_neg h1]
 by_cases h2:opI l t0<0
 ·rw [if_pos h2,zAG]
  exact sd (by rw [hI];exact iff_of_false (by simp) fun h=>by omega)
 rw [if_neg h2]
 have hfin:(t1=(m5.length:Int)∨0≤opI l t1)→(bindE (if opI l t2<0 then some (Sum.inr false) else some (Sum.inl ((c0,c1,c2,c3,c4,c5,c6),t0,t1,t2,t3)):Option ((Cls×Int×Int×Int×Int) ⊕ Bool)) fun (x:Cls×Int×Int×Int×Int) =>
   if x.2.2.2.2=0 then some true else zAA (F130 (x.1.1,x.2.2.2.2)) fun y=>some (!decide (y=[])))=some (decide (zEx c0 m5.length l (t0,t1,t2,t3))):=by
  intro h3
  by_cases h4:opI l t2<0
  ·rw [if_pos h4,zAG]
   exact sd (by rw [hI];exact iff_of_false (by simp) fun h=>by omega)
  rw [if_neg h4,zAD]
  simp only [q130 _ _ hp,zAB]
  by_cases h5:t3=0
  ·rw [if_pos h5]
   exact sd (by rw [hI];exact iff_of_true rfl ⟨by omega,by omega,h3,by omega,.inl h5⟩)
  ·rw [if_neg h5]
   refine sd ?_
   rw [hI]
   simp only [Bool.not_eq_true',decide_eq_false_iff_not]
   rw [show (¬ clsN c0 t3=[])↔zDB c0 t3 from zCw]
   exact ⟨fun h=>⟨by omega,by omega,h3,by omega,.inr h⟩,fun h=>h.2.2.2.2.resolve_left h5⟩
 by_cases h3:t1=(m5.length:Int)
 ·rw [if_pos h3]
  exact hfin (.inl h3)
 ·rw [if_neg h3]
  by_cases h4:opI l t1<0
  ·rw [if_pos h4,zAG]
   exact sd (by rw [hI];exact iff_of_false (by simp) fun h=>by omega)
  ·rw [if_neg h4]
   exact hfin (.inr (by omega))
theorem q292 (c:Cls) (l:List Knd) (hp:bndP c.1) (hl:l.length≤1048576):F292 (c,l)=some (decide (zCC c.1 l)):=by
 obtain ⟨c0,c1,c2,c3,c4,c5,c6⟩:=c
 simp only at hp
 simp only [F292,zAI]
 refine zPK (fun i=>(l,(i:Int),c0,c1,c2,c3,c4,c5,c6)) () false l.length (fun i=>KndOk c0 (l.getD i (0,0))) rfl ?_ ?_ ?_ ?_
 ·simp only [Int.lt_irrefl,if_false]
 ·intro i hi
  have i1:(i:Int)<l.length:=by omega
  have i0:(0:Int)≤i:=by omega
  simp only [i1,i0,if_true,decide_true,zAF,Int.toNat_natCast]
  simp only [zCy ((0,0):Knd) hi]
  generalize l.getD i (0,0)=x
  have hK:KndOk c0 x↔((0≤x.1∧x.1≤3)∧(x.1=3→zDB c0 x.2)∧(x.1≠3→x.2=0)):=Iff.rfl
  simp only [q107,q130 _ _ hp,zAB,zAl,zAI]
  by_cases h1:0≤x.1∧x.1≤3
  ·rw [if_pos h1]
   by_cases h2:x.1=3
   ·rw [if_pos h2,if_pos h2]
    by_cases h3:clsN c0 x.2=[]
    ·rw [if_pos h3]
     exact .inr ⟨fun h=>zCw.2 ((hK.1 h).2.1 h2) h3,rfl⟩
    ·rw [if_neg h3]
     refine .inl ⟨hK.2 ⟨h1,fun _=>zCw.1 h3,fun h=>absurd h2 h⟩,?_⟩
     simp only [zAD]
     rw [wI (by omega) (by omega)];rfl
   ·rw [if_neg h2,if_neg h2]
    by_cases h3:x.2=0
    ·rw [if_pos h3]
     refine .inl ⟨hK.2 ⟨h1,fun h=>absurd h h2,fun _=>h3⟩,?_⟩
     simp only [zAD]
     rw [wI (by omega) (by omega)];rfl
    ·rw [if_neg h3]
     exact .inr ⟨fun h=>h3 ((hK.1 h).2.2 h2),rfl⟩
  ·rw [if_neg h1]
   exact .inr ⟨fun h=>h1 (hK.1 h).1,rfl⟩
 ·intro h
  exact sd (iff_of_true rfl ((zBy (0,0)).2 h))
 ·intro h
  exact sd (iff_of_false (by simp) fun h'=>h ((zBy (0,0)).1 h'))
theorem q245 (c:Cls) (m:Mth) (hp:bndP c.1) (hm:0≤m.1∧m.1≤255):F245 (c,m)=some (takes c.1 m):=by
 obtain ⟨c0,c1,c2,c3,c4,c5,c6⟩:=c
 obtain ⟨m0,m1,m2,m3,m4,m5,m6,m7⟩:=m
 obtain ⟨hm0,hm1⟩:=hm
 simp only at hp hm0 hm1
 have hd:=dsc_len (txt c0 m2)
 simp only [F245,q131 _ _ hp,n214 _ (zDN hp _),q108 hm0 hm1 (show (1:Int)≤1 by omega),zAB,zAI,takes]
 split
 ·rfl
 ·rw [wI (by omega) (by omega)]
theorem q248 (c:Cls) (m:Mth) (l:List InsP) (hp:bndP c.1) (hl:l.length≤1048576) (hm:m.2.2.2.2.2.2.2.length≤1048576) (hk:∀ f∈m.2.2.2.2.2.2.2,bFrm f):F248 (c,m,l)=some (decide (zRj c.1 m l)):=by
 obtain ⟨c0,c1,c2,c3,c4,c5,c6⟩:=c
 obtain ⟨m0,m1,m2,m3,m4,m5,m6,m7⟩:=m
 simp only at hp hm hk
 simp only [F248,zAI]
 refine zPK (fun i=>(l,(i:Int),(c0,c1,c2,c3,c4,c5,c6),m0,m1,m2,m3,m4,m5,m6,m7)) () false m7.length (FrmOk c0 (m0,m1,m2,m3,m4,m5,m6,m7) l) rfl ?_ ?_ ?_ ?_
 ·simp only [Int.lt_irrefl,if_false]
 ·intro i hi
  have i1:(i:Int)<m7.length:=by omega
  have i0:(0:Int)≤i:=by omega
  have hF:FrmOk c0 (m0,m1,m2,m3,m4,m5,m6,m7) l i↔(0≤opI l (m7.getD i (0,[],[])).1∧(0<i→(m7.getD (i - 1) (0,[],[])).1<(m7.getD i (0,[],[])).1)∧((m7.getD i (0,[],[])).2.1.length:Int)=m4∧((m7.getD i (0,[],[])).2.2.length:Int)≤m3∧zCC c0 (m7.getD i (0,[],[])).2.1∧zCC c0 (m7.getD i (0,[],[])).2.2):=Iff.rfl
  have hb:bFrm (m7.getD i (0,[],[])):=(zBy (P:=bFrm) (0,[],[])).1 hk i hi
  simp only [i1,i0,if_true,decide_true,zAF,Int.toNat_natCast]
  rw [zCy (0,[],[]) hi]
  rw [hF]
  generalize m7.getD i (0,[],[])=x at hb
  have z1:F292 ((c0,c1,c2,c3,c4,c5,c6),x.2.1)=some (decide (zCC c0 x.2.1)):=q292 (c0,c1,c2,c3,c4,c5,c6) x.2.1 hp hb.1
  have z2:F292 ((c0,c1,c2,c3,c4,c5,c6),x.2.2)=some (decide (zCC c0 x.2.2)):=q292 (c0,c1,c2,c3,c4,c5,c6) x.2.2 hp hb.2
  simp only [q254 _ _ hl,z1,z2,zAB,zAl,zAI]
  by_cases h1:opI l x.1<0
  ·rw [if_pos h1]
   exact .inr ⟨fun h=>by omega,rfl⟩
  rw [if_neg h1]
  have hrest:(0<i→(m7.getD (i - 1) (0,[],[])).1<x.1)→∀ F:Option ((List InsP×Int×Cls×Mth) ⊕ ((List InsP×Int×Cls×Mth) ⊕ (Unit ⊕ Bool)))→Option ((List InsP×Int×Cls×Mth) ⊕ (Unit ⊕ Bool)),F (some (.inr (.inr (.inr false))))=some (.inr (.inr false)) →
    F (some (.inl (l,(i:Int),(c0,c1,c2,c3,c4,c5,c6),m0,m1,m2,m3,m4,m5,m6,m7)))=some (.inl (l,((i+1:Nat):Int),(c0,c1,c2,c3,c4,c5,c6),m0,m1,m2,m3,m4,m5,m6,m7)) →
    ((0≤opI l x.1∧(0<i→(m7.getD (i - 1) (0,[],[])).1<x.1)∧(x.2.1.length:Int)=m4∧(x.2.2.length:Int)≤m3∧zCC c0 x.2.1∧zCC c0 x.2.2) ∧
      F (if (x.2.1.length:Int)=m4 then if m3<(x.2.2.length:Int) then some (.inr (.inr (.inr false))) else if zCC c0 x.2.1 then if zCC c0 x.2.2 then some (.inl (l,(i:Int),(c0,c1,c2,c3,c4,c5,c6),m0,m1,m2,m3,m4,m5,m6,m7)) else some (.inr (.inr (.inr false))) else some (.inr (.inr (.inr false))) else some (.inr (.inr (.inr false))))=some (.inl (l,((i+1:Nat):Int),(c0,c1,c2,c3,c4,c5,c6),m0,m1,m2,m3,m4,m5,m6,m7))) ∨
    (¬ (0≤opI l x.1∧(0<i→(m7.getD (i - 1) (0,[],[])).1<x.1)∧(x.2.1.length:Int)=m4∧(x.2.2.length:Int)≤m3∧zCC c0 x.2.1∧zCC c0 x.2.2) ∧
     F (if (x.2.1.length:Int)=m4 then if m3<(x.2.2.length:Int) then some (.inr (.inr (.inr false))) else if zCC c0 x.2.1 then if zCC c0 x.2.2 then some (.inl (l,(i:Int),(c0,c1,c2,c3,c4,c5,c6),m0,m1,m2,m3,m4,m5,m6,m7)) else some (.inr (.inr (.inr false))) else some (.inr (.inr (.inr false))) else some (.inr (.inr (.inr false))))=some (.inr (.inr false))):=by
   intro h2 F f1 f2
   by_cases h3:(x.2.1.length:Int)=m4
   ·rw [if_pos h3]
    by_cases h4:m3<(x.2.2.length:Int)
    ·rw [if_pos h4];exact .inr ⟨fun h=>by omega,f1⟩
    ·rw [if_neg h4]
     by_cases h5:zCC c0 x.2.1
     ·rw [if_pos h5]
      by_cases h6:zCC c0 x.2.2
      ·rw [if_pos h6];exact .inl ⟨⟨by omega,h2,h3,by omega,h5,h6⟩,f2⟩
      ·rw [if_neg h6];exact .inr ⟨fun h=>h6 h.2.2.2.2.2,f1⟩
     ·rw [if_neg h5];exact .inr ⟨fun h=>h5 h.2.2.2.2.1,f1⟩
   ·rw [if_neg h3];exact .inr ⟨fun h=>h3 h.2.2.1,f1⟩
  by_cases h2:(0:Int)<i
  ·have j1:((i:Int) - 1).toNat=i - 1:=by omega
   have j0:(0:Int)≤(i:Int) - 1:=by omega
   have jl:i - 1<m7.length:=by omega
   rw [if_pos h2]
   simp (discharger:=omega) only [wI,j0,decide_true,zAF,j1]
   rw [zCy (0,[],[]) jl]
   by_cases h3:x.1≤(m7.getD (i - 1) (0,[],[])).1
   ·rw [if_pos h3]
    exact .inr ⟨fun h=>by have:=h.2.1 (by omega);omega,rfl⟩
   ·rw [if_neg h3]
    refine hrest (fun _=>by omega) (bindE · _) rfl ?_
    simp only [zAD]
    rw [wI (by omega) (by omega)];rfl
  ·rw [if_neg h2]
   refine hrest (fun h=>absurd h (by omega)) (bindE · _) rfl ?_
   simp only [zAD]
   rw [wI (by omega) (by omega)];rfl
 ·intro h
  exact sd (iff_of_true rfl h)
 ·intro h
  exact sd (iff_of_false (by simp) h)
end Go.Proofs.YtdpapeledldifaaGreat
end
section
namespace Go.Proofs.YtdpapeledldifaaGreat
open Go Go.AM Go.TM Go.Stow
theorem q178 (c:Cls) (m:Mth) (hp:bndP c.1) (hm:0≤m.1∧m.1≤255) (hb:bMth m):F178 (c,m)=some (decide (¬ has m.1 8→zEf c.1 m)):=by
 have z245:=q245 c m hp hm
 obtain ⟨c0,c1,c2,c3,c4,c5,c6⟩:=c
 obtain ⟨m0,m1,m2,m3,m4,m5,m6,m7⟩:=m
 obtain ⟨hm0,hm1⟩:=hm
 obtain ⟨b1,b2,b3,b4⟩:=hb
 simp only at hp hm0 hm1 b1 b2 b3 b4 z245
 have hlen:=opsV_len m5
 have hB:zEf c0 (m0,m1,m2,m3,m4,m5,m6,m7)↔((opsV m5).2=true∧m3≤8∧(takes c0 (m0,m1,m2,m3,m4,m5,m6,m7)≤m4∧m4≤8)∧(∀ x∈(opsV m5).1,zMi c0 m4 (opsV m5).1 x)∧(∀ t∈m6,zEx c0 m5.length (opsV m5).1 t)∧zRj c0 (m0,m1,m2,m3,m4,m5,m6,m7) (opsV m5).1):=Iff.rfl
 simp only [F178,q108 hm0 hm1 (show (1:Int)≤8 by omega),q193 _ b1,zAB,zAI,zAl]
 by_cases h0:has m0 8
 ·rw [if_pos h0]
  exact sd (iff_of_true rfl fun h=>absurd h0 h)
 rw [if_neg h0]
 have hgo:∀ b:Bool,(b=true↔zEf c0 (m0,m1,m2,m3,m4,m5,m6,m7))→some b=some (decide (¬ has m0 8→zEf c0 (m0,m1,m2,m3,m4,m5,m6,m7))):=fun b hb=>sd (hb.trans ⟨fun h _=>h,fun h=>h h0⟩)
 generalize hv:opsV m5=v at hlen hB
 obtain ⟨ops,ok⟩:=v
 simp only at hlen hB ⊢
 have hol:ops.length≤1048576:=by omega
 cases ok with
 | false =>
   rw [zAJ,zAG]
   exact hgo false (by rw [hB];exact iff_of_false (by simp) fun h=>by cases h.1)
 | true =>
   rw [zAL]
   by_cases h1:8<m3
   ·rw [if_pos h1,zAG]
    exact hgo false (by rw [hB];exact iff_of_false (by simp) fun h=>by omega)
   rw [if_neg h1,z245,zAB]
   simp only [eq_self,decide_true,zAF,zAc,q107,zAB,zAI]
   by_cases h2:takes c0 (m0,m1,m2,m3,m4,m5,m6,m7)≤m4∧m4≤8
   ·rw [if_pos h2,zAD]
    simp only
    refine zPK (fun i=>(ops,(i:Int),(c0,c1,c2,c3,c4,c5,c6),m0,m1,m2,m3,m4,m5,m6,m7)) (ops,(c0,c1,c2,c3,c4,c5,c6),m0,m1,m2,m3,m4,m5,m6,m7) false ops.length (fun i=>zMi c0 m4 ops (ops.getD i (0,0,0))) rfl ?_ ?_ ?_ ?_
    ·simp only [Int.lt_irrefl,if_false]
    ·intro i hi
     have i1:(i:Int)<ops.length:=by omega
     have i0:(0:Int)≤i:=by omega
     simp only [i1,i0,if_true,decide_true,Bool.and_self,zAF,Int.toNat_natCast]
     rw [zCy (0,0,0) hi]
     generalize ops.getD i (0,0,0)=x
     have z:=q246 (c0,c1,c2,c3,c4,c5,c6) (m0,m1,m2,m3,m4,m5,m6,m7) ops x hp hol
     rw [show ((x.1,x.2.1,x.2.2):InsP)=x from rfl,z]
     simp only [zAB,zAI]
     by_cases h:zMi c0 m4 ops x
     ·rw [if_pos h,wI (by omega) (by omega)];exact .inl ⟨h,rfl⟩
     ·rw [if_neg h];exact .inr ⟨h,rfl⟩
    ·intro hins
     have hins:=(zBy (P:=fun x=>zMi c0 m4 ops x) (0,0,0)).2 hins
     simp only
     refine zPK (fun i=>(ops,(i:Int),(c0,c1,c2,c3,c4,c5,c6),m0,m1,m2,m3,m4,m5,m6,m7)) (ops,(c0,c1,c2,c3,c4,c5,c6),m0,m1,m2,m3,m4,m5,m6,m7) false m6.length (fun i=>zEx c0 m5.length ops (m6.getD i (0,0,0,0))) rfl ?_ ?_ ?_ ?_
     ·simp only [Int.lt_irrefl,if_false]
     ·intro i hi
      have i1:(i:Int)<m6.length:=by omega
      have i0:(0:Int)≤i:=by omega
      simp only [i1,i0,if_true,decide_true,Bool.and_self,zAF,Int.toNat_natCast]
      rw [zCy (0,0,0,0) hi]
      generalize m6.getD i (0,0,0,0)=x
      have z:=q247 (c0,c1,c2,c3,c4,c5,c6) (m0,m1,m2,m3,m4,m5,m6,m7) ops x hp hol
      rw [show ((x.1,x.2.1,x.2.2.1,x.2.2.2):Trp)=x from rfl,z]
      simp only [zAB,zAI]
      by_cases h:zEx c0 m5.length ops x
      ·rw [if_pos h,wI (by omega) (by omega)];exact .inl ⟨h,rfl⟩
      ·rw [if_neg h];exact .inr ⟨h,rfl⟩
     ·intro htr
      have htr:=(zBy (P:=fun x=>zEx c0 m5.length ops x) (0,0,0,0)).2 htr
      have z:=q248 (c0,c1,c2,c3,c4,c5,c6) (m0,m1,m2,m3,m4,m5,m6,m7) ops hp hol b3 b4
      simp only
      rw [z,zAB]
      refine hgo _ ?_
      rw [hB,decide_eq_true_iff]
      exact ⟨fun h=>⟨rfl,by omega,h2,hins,htr,h⟩,fun h=>h.2.2.2.2.2⟩
     ·intro htr
      exact hgo false (by rw [hB];exact iff_of_false (by simp) fun h=>htr ((zBy (P:=fun x=>zEx c0 m5.length ops x) (0,0,0,0)).1 h.2.2.2.2.1))
    ·intro hins
     exact hgo false (by rw [hB];exact iff_of_false (by simp) fun h=>hins ((zBy (P:=fun x=>zMi c0 m4 ops x) (0,0,0)).1 h.2.2.2.1))
   ·rw [if_neg h2,zAG]
    exact hgo false (by rw [hB];exact iff_of_false (by simp) fun h=>h2 h.2.2.1)
end Go.Proofs.YtdpapeledldifaaGreat
end
section
namespace Go.Stow
theorem chkV_2 {c:ClsP} (h:¬ zER c.1 c.1.length 0=0):chkV c=2:=by unfold chkV;rw [if_pos h]
theorem chkV_3 {c:ClsP} (h1:zER c.1 c.1.length 0=0) (h2:¬ zCz c):chkV c=3:=by
 unfold chkV;rw [if_neg (show ¬ zER c.1 c.1.length 0≠0 from fun h=>h h1),if_pos h2]
theorem chkV_4 {c:ClsP} (h1:zER c.1 c.1.length 0=0) (h2:zCz c) (h3:¬ zEe c):chkV c=4:=by
 unfold chkV;rw [if_neg (show ¬ zER c.1 c.1.length 0≠0 from fun h=>h h1),if_neg (show ¬ ¬ zCz c from fun h=>h h2),if_pos h3]
theorem chkV_5 {c:ClsP} (h1:zER c.1 c.1.length 0=0) (h2:zCz c) (h3:zEe c) (h4:¬ zFw c):chkV c=5:=by
 unfold chkV;rw [if_neg (show ¬ zER c.1 c.1.length 0≠0 from fun h=>h h1),if_neg (show ¬ ¬ zCz c from fun h=>h h2),if_neg (show ¬ ¬ zEe c from fun h=>h h3),if_pos h4]
theorem chkV_6 {c:ClsP} (h1:zER c.1 c.1.length 0=0) (h2:zCz c) (h3:zEe c) (h4:zFw c) (h5:¬ zJD c):chkV c=6:=by
 unfold chkV;rw [if_neg (show ¬ zER c.1 c.1.length 0≠0 from fun h=>h h1),if_neg (show ¬ ¬ zCz c from fun h=>h h2),if_neg (show ¬ ¬ zEe c from fun h=>h h3),if_neg (show ¬ ¬ zFw c from fun h=>h h4),if_pos h5]
theorem chkV_0 {c:ClsP} (h1:zER c.1 c.1.length 0=0) (h2:zCz c) (h3:zEe c) (h4:zFw c) (h5:zJD c):chkV c=0:=by
 unfold chkV;rw [if_neg (show ¬ zER c.1 c.1.length 0≠0 from fun h=>h h1),if_neg (show ¬ ¬ zCz c from fun h=>h h2),if_neg (show ¬ ¬ zEe c from fun h=>h h3),if_neg (show ¬ ¬ zFw c from fun h=>h h4),if_neg (show ¬ ¬ zJD c from fun h=>h h5)]
end Go.Stow
namespace Go.Proofs.YtdpapeledldifaaGreat
open Go Go.AM Go.TM Go.Stow
theorem fit_bnd {c:Cls} (h:fCls c):bndP c.1:=by
 obtain ⟨⟨f1,_⟩,h1,_⟩:=h
 exact ⟨by omega,fun x hx=>by have:=(h1 x hx).2.1;omega⟩
theorem chk88 (c:Cls) (h:fCls c):F88 c=some (chkV c):=by
 have hp:=fit_bnd h
 have hb:=zSM h
 obtain ⟨⟨f1,f2,f3,f4⟩,_,hfl,_,_,_,_,hms⟩:=h
 have hmf:∀ m∈c.2.2.2.2.2.2,0≤m.1∧m.1≤255:=fun m hm=>(hms m hm).1
 have z15:=q15 c.1 hp f1
 have z175:=q175 c hp hfl (by omega)
 have z176:=q176 c hp hfl (by omega)
 have z177:=q177 c hp hfl (by omega) hmf
 have hbm:=hb.2.2.2.2
 obtain ⟨c0,c1,c2,c3,c4,c5,c6⟩:=c
 simp only at f1 f2 f3 f4 hfl hmf hp z15 hbm
 simp only [F88,z15,z175,z176,z177,zAB,zAl,zAI]
 by_cases h1:zER c0 c0.length 0=0
 ·rw [if_pos h1]
  by_cases h2:zCz (c0,c1,c2,c3,c4,c5,c6)
  ·rw [if_pos h2]
   by_cases h3:zEe (c0,c1,c2,c3,c4,c5,c6)
   ·rw [if_pos h3]
    by_cases h4:zFw (c0,c1,c2,c3,c4,c5,c6)
    ·rw [if_pos h4]
     refine zPK (fun i=>((i:Int),c0,c1,c2,c3,c4,c5,c6)) () 6 c6.length (fun i=>¬ has (c6.getD i mth0).1 8→zEf c0 (c6.getD i mth0)) rfl ?_ ?_ ?_ ?_
     ·simp only [Int.lt_irrefl,if_false]
     ·intro i hi
      have i1:(i:Int)<c6.length:=by omega
      have i0:(0:Int)≤i:=by omega
      simp only [i1,i0,if_true,decide_true,zAF,Int.toNat_natCast]
      rw [zCy mth0 hi]
      have hm1:=(zBy (P:=fun m:Mth=>0≤m.1∧m.1≤255) mth0).1 hmf i hi
      have hm2:=(zBy (P:=bMth) mth0).1 hbm i hi
      generalize c6.getD i mth0=x at hm1 hm2
      have z:F178 ((c0,c1,c2,c3,c4,c5,c6),x.1,x.2.1,x.2.2.1,x.2.2.2.1,x.2.2.2.2.1,x.2.2.2.2.2.1,x.2.2.2.2.2.2.1,x.2.2.2.2.2.2.2)=some (decide (¬ has x.1 8→zEf c0 x)):=q178 (c0,c1,c2,c3,c4,c5,c6) x hp hm1 hm2
      rw [z]
      simp only [zAB,zAI]
      by_cases e:¬ has x.1 8→zEf c0 x
      ·rw [if_pos e,wI (by omega) (by omega)];exact .inl ⟨e,rfl⟩
      ·rw [if_neg e];exact .inr ⟨e,rfl⟩
     ·intro hall
      rw [chkV_0 h1 h2 h3 h4 ((zBy (P:=fun m:Mth=>¬ has m.1 8→zEf c0 m) mth0).2 hall)]
     ·intro hall
      rw [chkV_6 h1 h2 h3 h4 fun h:zJD _=>hall ((zBy (P:=fun m:Mth=>¬ has m.1 8→zEf c0 m) mth0).1 h)]
    ·rw [if_neg h4,chkV_5 h1 h2 h3 h4]
   ·rw [if_neg h3,chkV_4 h1 h2 h3]
  ·rw [if_neg h2,chkV_3 h1 h2]
 ·rw [if_neg h1,chkV_2 h1]
theorem zTO {c:Cls} (h:put c≠[]):fCls c:=by
 refine Classical.byContradiction fun hn=>h (zEP fun hh=>hn hh.1)
end Go.Proofs.YtdpapeledldifaaGreat
end
section
namespace Go.Proofs.YtdpapeledldifaaGreat
open Go Go.AM Go.TM Go.Stow
set_option maxRecDepth 10000
theorem Bu.cls {K:Nat} {p:List Cst} {f n s:Int} {fa:List Int} {fi:List (Int×Int×Int)} {ms:List Mth} {bad:Bool} (h:Bu K (p,f,n,s,fa,fi,ms,bad)) (hK:K≤1000000):bCls (p,f,n,s,fa,fi,ms):=by
 obtain ⟨⟨h1,h2⟩,h3,h4,h5,h6⟩:=h
 simp only at h1 h2 h3 h4 h5 h6
 refine ⟨⟨by simp only;omega,fun x hx=>?_⟩,by simp only;omega,by simp only;omega,by simp only;omega,fun m hm=>?_⟩
 ·have:=h2 x hx
  unfold bCst;omega
 ·obtain ⟨k1,k2,k3,k4⟩:=h6 m hm
  refine ⟨by omega,by omega,by omega,fun f hf=>?_⟩
  have:=k4 f hf
  exact ⟨by unfold zIF;omega,by unfold zIF;omega⟩
theorem t218 {s:List UInt8}:Tot (F218 s) fun y=>y.1=true→put y.2≠[]:=by
 unfold F218
 refine Tot.bindE (fun z=>z=(s,[],0,0,0,[],[],[])∧1≤s.length∧s.length≤2500) ?_ ?_
 ·refine Tot.cnd (fun _=>Tot.ret (by simp)) fun h=>Tot.cnd (fun _=>Tot.ret (by simp)) fun h1=>?_
  simp only [decide_eq_false_iff_not] at h h1
  have hw:IntKind.wrap .i64 ((s.length:Int) - 1)=(s.length:Int) - 1:=wrapI (by omega) (by omega)
  simp only [hw]
  exact Tot.grd (by simp;omega) (Tot.at (by omega) fun x _=>Tot.cnd (fun _=>Tot.ret (by simp)) fun _=>Tot.ret ⟨rfl,by omega,by omega⟩)
 rintro _ ⟨rfl,h1,h2⟩
 refine Tot.bind (t278 (by omega) (by omega)) ?_
 rintro y ⟨hy1,hy2,-,hy3⟩
 have hw:IntKind.wrap .i64 ((y.length:Int) - 1)=(y.length:Int) - 1:=wrapI (by omega) (by omega)
 refine Tot.bindE (fun z=>∃ b,z=(([],0,0,0,[],[],[]),b)∧Bu 200000 b)
  (Tot.loop (fun z=>∃ i b,z=(y,i,([],0,0,0,[],[],[]),b)∧0≤i∧i≤(y.length:Int)∧Bu (60*i.toNat) b) (fun z=>y.length - z.2.1.toNat) ?_ ⟨0,_,rfl,by simp,by simp,⟨by simp,by simp⟩,by simp,by simp,by simp,by simp⟩) ?_
 ·rintro _ ⟨i,⟨p,f,n,s',fa,fi,ms,bad⟩,rfl,i0,i1,hb⟩
  refine Tot.bindE (fun z=>z=(y,i,([],0,0,0,[],[],[]),p,f,n,s',fa,fi,ms,bad)∧i<(y.length:Int)) ?_ ?_
  ·refine Tot.cnd (fun h=>Tot.cnd (fun _=>?_) fun _=>Tot.ret ⟨_,rfl,hb.mono (by omega)⟩) fun _=>Tot.ret ⟨_,rfl,hb.mono (by omega)⟩
   simp only [hw,decide_eq_true_eq] at h
   exact Tot.ret ⟨rfl,by omega⟩
  rintro _ ⟨rfl,hi⟩
  obtain ⟨x,ex⟩:∃ x,y[i.toNat]? = some x:=⟨y[i.toNat],List.getElem?_eq_getElem (by omega)⟩
  have hx:=hy3 x (List.mem_of_getElem? ex)
  refine Tot.grd (by simp;omega) (Tot.at' ex (Tot.bind (t279 (by omega) hb (by omega)) ?_))
  rintro ⟨p',f',n',s1,fa',fi',ms',bad'⟩ hb'
  have hw':IntKind.wrap .i64 (i+1)=i+1:=wrapI (by omega) (by omega)
  show Tot (some (Sum.inl (y,IntKind.wrap .i64 (i+1),(([],0,0,0,[],[],[]):Cls),p',f',n',s1,fa',fi',ms',bad'))) _
  rw [hw']
  exact Tot.ret ⟨⟨_,_,rfl,by omega,by omega,hb'.mono (by omega)⟩,by show y.length - (i+1).toNat<y.length - i.toNat;omega⟩
 rintro _ ⟨⟨p,f,n,s',fa,fi,ms,bad⟩,rfl,hb⟩
 have hc:=hb.cls (by omega)
 refine Tot.bindE (fun z=>z=(([],0,0,0,[],[],[]),p,f,n,s',fa,fi,ms,bad)∧put (p,f,n,s',fa,fi,ms)≠[]) ?_ ?_
 ·refine Tot.cnd (fun _=>Tot.ret (by simp)) fun _=>?_
  rw [put22 _ hc,zAB]
  refine Tot.cnd (fun _=>Tot.ret (by simp)) fun h=>?_
  simp only [decide_eq_false_iff_not] at h
  rw [chk88 _ (zTO h),zAB]
  exact Tot.cnd (fun _=>Tot.ret (by simp)) fun _=>Tot.ret ⟨rfl,h⟩
 rintro _ ⟨rfl,h⟩
 exact Tot.ret fun _=>h
end Go.Proofs.YtdpapeledldifaaGreat
end
section
namespace Go.Proofs.YtdpapeledldifaaGreat
open Go Go.AM Go.TM
set_option maxRecDepth 10000
theorem t276 {v1:Int} {g:List UInt8×List UInt8×List UInt8×Int×List UInt8} {r:List UInt8×Int} {K:Nat} {c:Nat} (hv11:(-9223372036854775808:Int)≤v1) (hv12:v1≤(9223372036854775807:Int)) (hg:Gt K g) (hr:Rd c r) (hK:K≤800000) (hc:c≤800000):Tot (F276 (v1,g,r)) fun y=>Gt (K+1200) y.1∧Rd (c+3) y.2:=by
 obtain ⟨o1,o2,o3,o4,o5⟩:=g
 have ko1:List.length o1≤K+0:=hg.1
 have ko2:List.length o2≤K+0:=hg.2.1
 have ko3:List.length o3≤K+0:=hg.2.2.1
 have ko5:List.length o5≤3:=hg.2.2.2.2
 obtain ⟨o0,o11⟩:=r
 unfold F276
 refine Tot.bind (zDA (m:=3) hr (by omega) (by simp) (by decide)) ?_
 rintro ⟨y,y1,y2⟩ ⟨(ky:List.length y≤3),hr1⟩
 refine Tot.grd (by simp <;> omega) ?_
 refine Tot.grd (by simp <;> omega) ?_
 refine Tot.bindE (fun y=>((-9223372036854775808:Int)≤y.1∧y.1≤(9223372036854775807:Int))∧List.length y.2.1≤5∧List.length y.2.2.1≤10∧Gt (K+0) y.2.2.2.1∧Rd (c+1) y.2.2.2.2) ?_ ?_
 ·refine Tot.cnd (fun c2=>?_) (fun c2=>?_)
  ·exact Tot.ret ⟨⟨hv11,hv12⟩,(by first | omega | simp <;> omega),(by first | omega | simp <;> omega),hg.mono (by omega),hr1.mono (by omega)⟩
  ·exact Tot.ret ⟨⟨hv11,hv12⟩,(by first | omega | simp <;> omega),(by first | omega | simp <;> omega),hg.mono (by omega),hr1.mono (by omega)⟩
 rintro ⟨v11,v4,v5,⟨o12,o21,o31,o41,o51⟩,o01,o13⟩ ⟨i3,(kv4:List.length v4≤5),(kv5:List.length v5≤10),hg4,hr5⟩
 have ko12:List.length o12≤K+0:=hg4.1
 have ko21:List.length o21≤K+0:=hg4.2.1
 have ko31:List.length o31≤K+0:=hg4.2.2.1
 have ko51:List.length o51≤3:=hg4.2.2.2.2
 refine Tot.bind (t274 (zFQ _).1 (zFQ _).2) ?_
 intro y3 (ky3:List.length y3≤25)
 refine Tot.grd (by simp <;> omega) ?_
 refine Tot.bind (t273 (by first | omega | simp <;> omega) hg4 hr5 (by omega) (by omega)) ?_
 rintro ⟨⟨y4,y5,y6,y7,y8⟩,y9,x⟩ ⟨hg6,hr7⟩
 have ky4:List.length y4≤K+110:=hg6.1
 have ky5:List.length y5≤K+110:=hg6.2.1
 have ky6:List.length y6≤K+110:=hg6.2.2.1
 have ky8:List.length y8≤3:=hg6.2.2.2.2
 refine Tot.bind (t274 i3.1 i3.2) ?_
 intro y10 (ky10:List.length y10≤25)
 refine Tot.seq (by repeat first | exact Tot.ret trivial | refine Tot.seq ?_ ?_ | refine Tot.grd (by first | decide | simp <;> omega) ?_) ?_
 refine Tot.grd (by simp <;> omega) ?_
 refine Tot.grd (by simp <;> omega) ?_
 refine Tot.bind (t274 hg4.2.2.2.1.1 hg4.2.2.2.1.2) ?_
 intro y11 (ky11:List.length y11≤25)
 refine Tot.seq (by repeat first | exact Tot.ret trivial | refine Tot.seq ?_ ?_ | refine Tot.grd (by first | decide | simp <;> omega) ?_) ?_
 refine Tot.grd (by simp <;> omega) ?_
 refine Tot.grd (by simp <;> omega) ?_
 refine Tot.bind (t274 hg6.2.2.2.1.1 hg6.2.2.2.1.2) ?_
 intro y12 (ky12:List.length y12≤25)
 refine Tot.seq (by repeat first | exact Tot.ret trivial | refine Tot.seq ?_ ?_ | refine Tot.grd (by first | decide | simp <;> omega) ?_) ?_
 refine Tot.grd (by simp <;> omega) ?_
 refine Tot.grd (by simp <;> omega) ?_
 refine Tot.grd (by simp <;> omega) ?_
 refine Tot.grd (by simp <;> omega) ?_
 refine Tot.bind (t308 (⟨(by show List.length _≤_;first | omega | simp <;> omega),(by show List.length _≤_;first | omega | simp <;> omega),(by show List.length _≤_;first | omega | simp <;> omega),⟨hg6.2.2.2.1.1,hg6.2.2.2.1.2⟩,(by show List.length _≤_;first | omega | simp <;> omega)⟩:Gt (K+310) (y4,[(116:UInt8),(114:UInt8),(97:UInt8),(112:UInt8),(32:UInt8)]++y10++[(32:UInt8)]++y11++[(32:UInt8)]++y12++[(32:UInt8)]++v4++[(10:UInt8)],y6,y7,y8)) hr7 (by omega) (by omega)) ?_
 rintro ⟨y13,⟨y14,y15,y16,y17,y18⟩,x1,x2⟩ ⟨(ky13:List.length y13≤20),hg8,hr9⟩
 have ky14:List.length y14≤K+310:=hg8.1
 have ky15:List.length y15≤K+310:=hg8.2.1
 have ky16:List.length y16≤K+310:=hg8.2.2.1
 have ky18:List.length y18≤3:=hg8.2.2.2.2
 refine Tot.bind (t307 (by first | omega | simp <;> omega) (by first | omega | simp <;> omega) hg8 hr9 (by omega) (by omega)) ?_
 rintro ⟨⟨y19,y20,y21,y22,y23⟩,y24,x3⟩ ⟨hg10,hr11⟩
 have ky19:List.length y19≤K+420:=hg10.1
 have ky20:List.length y20≤K+420:=hg10.2.1
 have ky21:List.length y21≤K+420:=hg10.2.2.1
 have ky23:List.length y23≤3:=hg10.2.2.2.2
 refine Tot.bind (t273 (by first | omega | simp <;> omega) hg10 hr11 (by omega) (by omega)) ?_
 rintro ⟨⟨y25,y26,y27,y28,y29⟩,y30,x4⟩ ⟨hg12,hr13⟩
 have ky25:List.length y25≤K+530:=hg12.1
 have ky26:List.length y26≤K+530:=hg12.2.1
 have ky27:List.length y27≤K+530:=hg12.2.2.1
 have ky29:List.length y29≤3:=hg12.2.2.2.2
 refine Tot.bind (t273 (by first | omega | simp <;> omega) hg12 hr13 (by omega) (by omega)) ?_
 rintro ⟨⟨y31,y32,y33,y34,y35⟩,y36,x5⟩ ⟨hg14,hr15⟩
 have ky31:List.length y31≤K+640:=hg14.1
 have ky32:List.length y32≤K+640:=hg14.2.1
 have ky33:List.length y33≤K+640:=hg14.2.2.1
 have ky35:List.length y35≤3:=hg14.2.2.2.2
 refine Tot.bind (t273 (by first | omega | simp <;> omega) hg14 hr15 (by omega) (by omega)) ?_
 rintro ⟨⟨y37,y38,y39,y40,y41⟩,y42,x6⟩ ⟨hg16,hr17⟩
 have ky37:List.length y37≤K+750:=hg16.1
 have ky38:List.length y38≤K+750:=hg16.2.1
 have ky39:List.length y39≤K+750:=hg16.2.2.1
 have ky41:List.length y41≤3:=hg16.2.2.2.2
 refine Tot.bind (t308 hg16 hr17 (by omega) (by omega)) ?_
 rintro ⟨y43,⟨y44,y45,y46,y47,y48⟩,x7,x8⟩ ⟨(ky43:List.length y43≤20),hg18,hr19⟩
 have ky44:List.length y44≤K+750:=hg18.1
 have ky45:List.length y45≤K+750:=hg18.2.1
 have ky46:List.length y46≤K+750:=hg18.2.2.1
 have ky48:List.length y48≤3:=hg18.2.2.2.2
 refine Tot.bind (t307 (by first | omega | simp <;> omega) (by first | omega | simp <;> omega) hg18 hr19 (by omega) (by omega)) ?_
 rintro ⟨⟨y49,y50,y51,y52,y53⟩,y54,x9⟩ ⟨hg20,hr21⟩
 have ky49:List.length y49≤K+860:=hg20.1
 have ky50:List.length y50≤K+860:=hg20.2.1
 have ky51:List.length y51≤K+860:=hg20.2.2.1
 have ky53:List.length y53≤3:=hg20.2.2.2.2
 exact Tot.ret ⟨hg20.mono (by omega),hr21.mono (by omega)⟩
theorem t275 {g:List UInt8×List UInt8×List UInt8×Int×List UInt8} {r:List UInt8×Int} {K:Nat} {c:Nat} (hg:Gt K g) (hr:Rd c r) (hK:K≤800000) (hc:c≤800000):Tot (F275 (g,r)) fun y=>Gt (K+2000) y.1∧Rd (c+40) y.2:=by
 obtain ⟨o1,o2,o3,o4,o5⟩:=g
 obtain ⟨o0,o11⟩:=r
 unfold F275
 refine Tot.bind (t51 hr (by omega)) ?_
 rintro ⟨y,y1,y2⟩ ⟨(a2:(0:Int)≤y),(b3:(1:Int)≤(14:Int)→y<(14:Int)),-,hr1⟩
 refine Tot.bindE (fun y=>Gt (K+1200) y.1∧Rd (c+21) y.2) ?_ ?_
 ·refine Tot.bindE (fun y=>Gt (K+0) y.2.2.1∧Rd (c+1) y.2.2.2) ?_ ?_
  ·refine Tot.cnd (fun c4=>?_) (fun c4=>?_)
   ·exact Tot.ret ⟨hg.mono (by omega),hr1.mono (by omega)⟩
   ·exact Tot.ret ⟨hg.mono (by omega),hr1.mono (by omega)⟩
  rintro ⟨v8,v11,⟨o12,o21,o31,o41,o51⟩,o01,o13⟩ ⟨hg5,hr6⟩
  refine Tot.cnd (fun c7=>?_) (fun c7=>?_)
  ·refine Tot.bind (t303 hg5 hr6 (by omega) (by omega)) ?_
   rintro ⟨⟨y3,y4,y5,y6,y7⟩,y8,x⟩ ⟨hg8,hr9⟩
   refine Tot.bind (t273 (by first | omega | simp <;> omega) hg8 hr9 (by omega) (by omega)) ?_
   rintro ⟨⟨y9,y10,y11,y12,y13⟩,y14,x1⟩ ⟨hg10,hr11⟩
   exact Tot.ret ⟨hg10.mono (by omega),hr11.mono (by omega)⟩
  ·refine Tot.bindE (fun y=>Gt (K+0) y.2.2.1∧Rd (c+1) y.2.2.2) ?_ ?_
   ·refine Tot.cnd (fun c12=>?_) (fun c12=>?_)
    ·exact Tot.ret ⟨hg5.mono (by omega),hr6.mono (by omega)⟩
    ·refine Tot.cnd (fun c13=>?_) (fun c13=>?_)
     ·exact Tot.ret ⟨hg5.mono (by omega),hr6.mono (by omega)⟩
     ·exact Tot.ret ⟨hg5.mono (by omega),hr6.mono (by omega)⟩
   rintro ⟨v81,v18,⟨o14,o22,o32,o42,o52⟩,o02,o15⟩ ⟨hg14,hr15⟩
   refine Tot.cnd (fun c16=>?_) (fun c16=>?_)
   ·refine Tot.bind (t304 hg14 hr15 (by omega) (by omega)) ?_
    rintro ⟨⟨y3,y4,y5,y6,y7⟩,y8,x⟩ ⟨hg17,hr18⟩
    refine Tot.bind (t277 hg17 hr18 (by omega) (by omega)) ?_
    rintro ⟨y9,⟨y10,y11,y12,y13,y14⟩,x1,x2⟩ ⟨(ky9:List.length y9≤25),hg19,hr20⟩
    refine Tot.grd (by simp <;> omega) ?_
    refine Tot.bind (t273 (by first | omega | simp <;> omega) hg19 hr20 (by omega) (by omega)) ?_
    rintro ⟨⟨y15,y16,y17,y18,y19⟩,y20,x3⟩ ⟨hg21,hr22⟩
    exact Tot.ret ⟨hg21.mono (by omega),hr22.mono (by omega)⟩
   ·refine Tot.cnd (fun c23=>?_) (fun c23=>?_)
    ·refine Tot.bind (t277 hg14 hr15 (by omega) (by omega)) ?_
     rintro ⟨y3,⟨y4,y5,y6,y7,y8⟩,x,x1⟩ ⟨(ky3:List.length y3≤25),hg24,hr25⟩
     refine Tot.grd (by simp <;> omega) ?_
     refine Tot.bind (t273 (by first | omega | simp <;> omega) hg24 hr25 (by omega) (by omega)) ?_
     rintro ⟨⟨y9,y10,y11,y12,y13⟩,y14,x2⟩ ⟨hg26,hr27⟩
     refine Tot.bind (t303 hg26 hr27 (by omega) (by omega)) ?_
     rintro ⟨⟨y15,y16,y17,y18,y19⟩,y20,x3⟩ ⟨hg28,hr29⟩
     refine Tot.bind (t273 (by first | omega | simp <;> omega) hg28 hr29 (by omega) (by omega)) ?_
     rintro ⟨⟨y21,y22,y23,y24,y25⟩,y26,x4⟩ ⟨hg30,hr31⟩
     exact Tot.ret ⟨hg30.mono (by omega),hr31.mono (by omega)⟩
    ·refine Tot.cnd (fun c32=>?_) (fun c32=>?_)
     ·refine Tot.bind (t305 hg14 hr15 (by omega) (by omega)) ?_
      rintro ⟨⟨y3,y4,y5,y6,y7⟩,y8,x⟩ ⟨hg33,hr34⟩
      exact Tot.ret ⟨hg33.mono (by omega),hr34.mono (by omega)⟩
     ·refine Tot.cnd (fun c35=>?_) (fun c35=>?_)
      ·refine Tot.bind (t303 hg14 hr15 (by omega) (by omega)) ?_
       rintro ⟨⟨y3,y4,y5,y6,y7⟩,y8,x⟩ ⟨hg36,hr37⟩
       refine Tot.bind (t273 (by first | omega | simp <;> omega) hg36 hr37 (by omega) (by omega)) ?_
       rintro ⟨⟨y9,y10,y11,y12,y13⟩,y14,x1⟩ ⟨hg38,hr39⟩
       exact Tot.ret ⟨hg38.mono (by omega),hr39.mono (by omega)⟩
      ·refine Tot.cnd (fun c40=>?_) (fun c40=>?_)
       ·refine Tot.bind (zDA (m:=1) hr15 (by omega) (by simp) (by decide)) ?_
        rintro ⟨y3,y4,y5⟩ ⟨(ky3:List.length y3≤1),hr41⟩
        refine Tot.grd (by simp <;> omega) ?_
        refine Tot.bind (t273 (by first | omega | simp <;> omega) hg14 hr41 (by omega) (by omega)) ?_
        rintro ⟨⟨y6,y7,y8,y9,y10⟩,y11,x⟩ ⟨hg42,hr43⟩
        refine Tot.bind (t273 (by first | omega | simp <;> omega) hg42 hr43 (by omega) (by omega)) ?_
        rintro ⟨⟨y12,y13,y14,y15,y16⟩,y17,x1⟩ ⟨hg44,hr45⟩
        refine Tot.bind (t273 (by first | omega | simp <;> omega) hg44 hr45 (by omega) (by omega)) ?_
        rintro ⟨⟨y18,y19,y20,y21,y22⟩,y23,x2⟩ ⟨hg46,hr47⟩
        exact Tot.ret ⟨hg46.mono (by omega),hr47.mono (by omega)⟩
       ·refine Tot.cnd (fun c48=>?_) (fun c48=>?_)
        ·refine Tot.bind (t277 hg14 hr15 (by omega) (by omega)) ?_
         rintro ⟨y3,⟨y4,y5,y6,y7,y8⟩,x,x1⟩ ⟨(ky3:List.length y3≤25),hg49,hr50⟩
         refine Tot.grd (by simp <;> omega) ?_
         refine Tot.bind (t273 (by first | omega | simp <;> omega) hg49 hr50 (by omega) (by omega)) ?_
         rintro ⟨⟨y9,y10,y11,y12,y13⟩,y14,x2⟩ ⟨hg51,hr52⟩
         refine Tot.bind (zDA (m:=1) hr52 (by omega) (by simp) (by decide)) ?_
         rintro ⟨y15,y16,y17⟩ ⟨(ky15:List.length y15≤1),hr53⟩
         refine Tot.grd (by simp <;> omega) ?_
         refine Tot.bind (t273 (by first | omega | simp <;> omega) hg51 hr53 (by omega) (by omega)) ?_
         rintro ⟨⟨y18,y19,y20,y21,y22⟩,y23,x3⟩ ⟨hg54,hr55⟩
         refine Tot.bind (t273 (by first | omega | simp <;> omega) hg54 hr55 (by omega) (by omega)) ?_
         rintro ⟨⟨y24,y25,y26,y27,y28⟩,y29,x4⟩ ⟨hg56,hr57⟩
         exact Tot.ret ⟨hg56.mono (by omega),hr57.mono (by omega)⟩
        ·refine Tot.cnd (fun c58=>?_) (fun c58=>?_)
         ·refine Tot.bind (t277 hg14 hr15 (by omega) (by omega)) ?_
          rintro ⟨y3,⟨y4,y5,y6,y7,y8⟩,x,x1⟩ ⟨(ky3:List.length y3≤25),hg59,hr60⟩
          refine Tot.grd (by simp <;> omega) ?_
          refine Tot.bind (t273 (by first | omega | simp <;> omega) hg59 hr60 (by omega) (by omega)) ?_
          rintro ⟨⟨y9,y10,y11,y12,y13⟩,y14,x2⟩ ⟨hg61,hr62⟩
          refine Tot.bind (t304 hg61 hr62 (by omega) (by omega)) ?_
          rintro ⟨⟨y15,y16,y17,y18,y19⟩,y20,x3⟩ ⟨hg63,hr64⟩
          refine Tot.bind (t273 (by first | omega | simp <;> omega) hg63 hr64 (by omega) (by omega)) ?_
          rintro ⟨⟨y21,y22,y23,y24,y25⟩,y26,x4⟩ ⟨hg65,hr66⟩
          exact Tot.ret ⟨hg65.mono (by omega),hr66.mono (by omega)⟩
         ·refine Tot.cnd (fun c67=>?_) (fun c67=>?_)
          ·refine Tot.bind (zDA (m:=17) hr15 (by omega) (by simp) (by decide)) ?_
           rintro ⟨y3,y4,y5⟩ ⟨(ky3:List.length y3≤17),hr68⟩
           refine Tot.bind (t273 (by first | omega | simp <;> omega) hg14 hr68 (by omega) (by omega)) ?_
           rintro ⟨⟨y6,y7,y8,y9,y10⟩,y11,x⟩ ⟨hg69,hr70⟩
           refine Tot.bind (zDA (m:=4) hr70 (by omega) (by simp) (by decide)) ?_
           rintro ⟨y12,y13,y14⟩ ⟨(ky12:List.length y12≤4),hr71⟩
           refine Tot.bind (t273 (by first | omega | simp <;> omega) hg69 hr71 (by omega) (by omega)) ?_
           rintro ⟨⟨y15,y16,y17,y18,y19⟩,y20,x1⟩ ⟨hg72,hr73⟩
           exact Tot.ret ⟨hg72.mono (by omega),hr73.mono (by omega)⟩
          ·refine Tot.bind (t306 hg14 hr15 (by omega) (by omega)) ?_
           rintro ⟨⟨y3,y4,y5,y6,y7⟩,y8,x⟩ ⟨hg74,hr75⟩
           exact Tot.ret ⟨hg74.mono (by omega),hr75.mono (by omega)⟩
 rintro ⟨⟨o12,o21,o31,o41,o51⟩,o01,o13⟩ ⟨hg76,hr77⟩
 exact Tot.ret ⟨hg76.mono (by omega),hr77.mono (by omega)⟩
theorem t140 {v1:List UInt8} {r:List UInt8×Int} {c:Nat} (hv1:List.length v1≤10) (hr:Rd c r) (hc:c≤750000):Tot (F140 (v1,r)) fun y=>List.length y.1≤1000∧Rd (c+5) y.2:=by
 obtain ⟨o0,o1⟩:=r
 unfold F140
 refine Tot.cnd (fun c1=>?_) (fun c1=>?_)
 ·refine Tot.bind (zDA (m:=12) hr (by omega) (by simp) (by decide)) ?_
  rintro ⟨y,y1,y2⟩ ⟨(ky:List.length y≤12),hr2⟩
  refine Tot.grd (by simp <;> omega) ?_
  refine Tot.grd (by simp <;> omega) ?_
  refine Tot.grd (by simp <;> omega) ?_
  refine Tot.grd (by simp <;> omega) ?_
  refine Tot.bind (zDA (m:=28) hr2 (by omega) (by simp) (by decide)) ?_
  rintro ⟨y3,y4,y5⟩ ⟨(ky3:List.length y3≤28),hr3⟩
  refine Tot.grd (by simp <;> omega) ?_
  refine Tot.bind (zDA (m:=72) hr3 (by omega) (by simp) (by decide)) ?_
  rintro ⟨y6,y7,y8⟩ ⟨(ky6:List.length y6≤72),hr4⟩
  refine Tot.grd (by simp <;> omega) ?_
  exact Tot.ret ⟨(by first | omega | simp <;> omega),hr4.mono (by omega)⟩
 ·refine Tot.cnd (fun c5=>?_) (fun c5=>?_)
  ·refine Tot.bind (zDA (m:=1) hr (by omega) (by simp) (by decide)) ?_
   rintro ⟨y,y1,y2⟩ ⟨(ky:List.length y≤1),hr6⟩
   refine Tot.grd (by simp <;> omega) ?_
   refine Tot.grd (by simp <;> omega) ?_
   refine Tot.bind (zDA (m:=78) hr6 (by omega) (by simp) (by decide)) ?_
   rintro ⟨y3,y4,y5⟩ ⟨(ky3:List.length y3≤78),hr7⟩
   refine Tot.grd (by simp <;> omega) ?_
   exact Tot.ret ⟨(by first | omega | simp <;> omega),hr7.mono (by omega)⟩
  ·refine Tot.cnd (fun c8=>?_) (fun c8=>?_)
   ·refine Tot.bind (zDA (m:=40) hr (by omega) (by simp) (by decide)) ?_
    rintro ⟨y,y1,y2⟩ ⟨(ky:List.length y≤40),hr9⟩
    refine Tot.grd (by simp <;> omega) ?_
    refine Tot.grd (by simp <;> omega) ?_
    refine Tot.bind (zDA (m:=17) hr9 (by omega) (by simp) (by decide)) ?_
    rintro ⟨y3,y4,y5⟩ ⟨(ky3:List.length y3≤17),hr10⟩
    refine Tot.grd (by simp <;> omega) ?_
    refine Tot.grd (by simp <;> omega) ?_
    exact Tot.ret ⟨(by first | omega | simp <;> omega),hr10.mono (by omega)⟩
   ·refine Tot.cnd (fun c11=>?_) (fun c11=>?_)
    ·refine Tot.bind (zDA (m:=1) hr (by omega) (by simp) (by decide)) ?_
     rintro ⟨y,y1,y2⟩ ⟨(ky:List.length y≤1),hr12⟩
     refine Tot.grd (by simp <;> omega) ?_
     refine Tot.grd (by simp <;> omega) ?_
     exact Tot.ret ⟨(by first | omega | simp <;> omega),hr12.mono (by omega)⟩
    ·refine Tot.bind (zDA (m:=1) hr (by omega) (by simp) (by decide)) ?_
     rintro ⟨y,y1,y2⟩ ⟨(ky:List.length y≤1),hr13⟩
     refine Tot.grd (by simp <;> omega) ?_
     refine Tot.grd (by simp <;> omega) ?_
     exact Tot.ret ⟨(by first | omega | simp <;> omega),hr13.mono (by omega)⟩
theorem t217 {v1:List UInt8} {r:List UInt8×Int} {c:Nat} (hv1:List.length v1≤20) (hr:Rd c r) (hc:c≤750000):Tot (F217 (v1,r)) fun y=>List.length y.1≤80000∧Rd (c+600) y.2:=by
 obtain ⟨o0,o1⟩:=r
 unfold F217
 refine Tot.bindE (fun y=>List.length y.1≤20∧Gt (0+900) y.2.1∧Rd (c+3) y.2.2) (Tot.loop (fun x=>List.length x.1≤20∧((0:Int)≤x.2.1∧x.2.1≤(3:Int))∧Gt (300*Int.toNat x.2.1) x.2.2.1∧Rd (c+Int.toNat x.2.1) x.2.2.2) (fun x=>3 - Int.toNat x.2.1) ?_ ⟨hv1,⟨by simp,by simp⟩,⟨by simp,by simp,by simp,⟨by simp,by simp⟩,by simp⟩,(by exact hr)⟩) ?_
 ·rintro ⟨v11,v6,⟨o11,o2,o3,o4,o5⟩,o01,o12⟩ ⟨(kv11:List.length v11≤20),⟨(i0:(0:Int)≤v6),(i1:v6≤(3:Int))⟩,(hga:Gt (300*Int.toNat v6) (o11,o2,o3,o4,o5)),(hra:Rd (c+Int.toNat v6) (o01,o12))⟩
  obtain ⟨n,hn⟩:∃ n:Nat,Int.toNat v6=n:=⟨_,rfl⟩
  rw [hn] at hga hra
  have ko11:List.length o11≤300*n+0:=hga.1
  have ko2:List.length o2≤300*n+0:=hga.2.1
  have ko3:List.length o3≤300*n+0:=hga.2.2.1
  have ko5:List.length o5≤3:=hga.2.2.2.2
  refine Tot.cnd (fun c1=>?_) (fun c1=>?_)
  ·simp only [decide_eq_true_eq] at c1
   refine Tot.bind (zDA (m:=5) hra (by omega) (by simp) (by decide)) ?_
   rintro ⟨y,y1,y2⟩ ⟨(ky:List.length y≤5),hr2⟩
   refine Tot.bind (t273 (by first | omega | simp <;> omega) hga hr2 (by omega) (by omega)) ?_
   rintro ⟨⟨y3,y4,y5,y6,y7⟩,y8,x⟩ ⟨hg3,hr4⟩
   have ky3:List.length y3≤300*n+110:=hg3.1
   have ky4:List.length y4≤300*n+110:=hg3.2.1
   have ky5:List.length y5≤300*n+110:=hg3.2.2.1
   have ky7:List.length y7≤3:=hg3.2.2.2.2
   refine Tot.bind (t274 (by omega) (by omega)) ?_
   intro y9 (ky9:List.length y9≤25)
   refine Tot.grd (by simp <;> omega) ?_
   refine Tot.bind (t273 (by first | omega | simp <;> omega) hg3 hr4 (by omega) (by omega)) ?_
   rintro ⟨⟨y10,y11,y12,y13,y14⟩,y15,x1⟩ ⟨hg5,hr6⟩
   have ky10:List.length y10≤300*n+220:=hg5.1
   have ky11:List.length y11≤300*n+220:=hg5.2.1
   have ky12:List.length y12≤300*n+220:=hg5.2.2.1
   have ky14:List.length y14≤3:=hg5.2.2.2.2
   have hw:IntKind.wrap .i64 (v6+1)=v6+1:=wrapI (by omega) (by omega)
   rw [hw]
   exact Tot.ret ⟨⟨kv11,⟨by show (0:Int)≤v6+1;omega,by show v6+1≤(3:Int);omega⟩,hg5.mono (by show _≤300*Int.toNat (v6+1);omega),hr6.mono (by show _≤c+Int.toNat (v6+1);omega)⟩,by show 3 - Int.toNat (v6+1)<3 - Int.toNat v6;omega⟩
  ·simp only [decide_eq_false_iff_not] at c1
   exact Tot.ret ⟨(by first | omega | simp <;> omega),hga.mono (by omega),hra.mono (by omega)⟩
 rintro ⟨v11,⟨o11,o2,o3,o4,o5⟩,o01,o12⟩ ⟨(kv11:List.length v11≤20),hg7,hr8⟩
 have ko11:List.length o11≤0+900:=hg7.1
 have ko2:List.length o2≤0+900:=hg7.2.1
 have ko3:List.length o3≤0+900:=hg7.2.2.1
 have ko5:List.length o5≤3:=hg7.2.2.2.2
 refine Tot.bind (t51 hr8 (by omega)) ?_
 rintro ⟨y,y1,y2⟩ ⟨(a10:(0:Int)≤y),(b11:(1:Int)≤(6:Int)→y<(6:Int)),-,hr9⟩
 refine Tot.bindE (fun y=>List.length y.1≤20∧((-9223372036854775808:Int)≤y.2.1∧y.2.1≤(9223372036854775807:Int))∧Gt (0+12900) y.2.2.1∧Rd (c+244) y.2.2.2) (Tot.loop (fun x=>List.length x.1≤20∧((-9223372036854775808:Int)≤x.2.1∧x.2.1≤(9223372036854775807:Int))∧((0:Int)≤x.2.2.1∧x.2.2.1≤(6:Int))∧Gt (12900 - 2000*Int.toNat x.2.2.1) x.2.2.2.1∧Rd (c+244 - 40*Int.toNat x.2.2.1) x.2.2.2.2) (fun x=>Int.toNat x.2.2.1) ?_ (by rw [show IntKind.wrap .i64 (1+y)=1+y from wrapI (by omega) (by omega)];exact ⟨kv11,⟨hg7.2.2.2.1.1,hg7.2.2.2.1.2⟩,⟨by show (0:Int)≤1+y;omega,by show 1+y≤(6:Int);omega⟩,hg7.mono (by show _≤12900 - 2000*Int.toNat (1+y);omega),hr9.mono (by show _≤c+244 - 40*Int.toNat (1+y);omega)⟩)) ?_
 ·rintro ⟨v12,v7,v8,⟨o13,o21,o31,o41,o51⟩,o02,o14⟩ ⟨(kv12:List.length v12≤20),⟨(j0:(-9223372036854775808:Int)≤v7),(j1:v7≤(9223372036854775807:Int))⟩,⟨(i0:(0:Int)≤v8),(i1:v8≤(6:Int))⟩,(hga:Gt (12900 - 2000*Int.toNat v8) (o13,o21,o31,o41,o51)),(hra:Rd (c+244 - 40*Int.toNat v8) (o02,o14))⟩
  obtain ⟨n,hn⟩:∃ n:Nat,Int.toNat v8=n:=⟨_,rfl⟩
  rw [hn] at hga hra
  have ko13:List.length o13≤(12900 - 2000*n)+0:=hga.1
  have ko21:List.length o21≤(12900 - 2000*n)+0:=hga.2.1
  have ko31:List.length o31≤(12900 - 2000*n)+0:=hga.2.2.1
  have ko51:List.length o51≤3:=hga.2.2.2.2
  refine Tot.cnd (fun c12=>?_) (fun c12=>?_)
  ·simp only [decide_eq_true_eq] at c12
   refine Tot.cnd (fun c13=>?_) (fun c13=>?_)
   ·simp only [decide_eq_true_eq] at c13
    refine Tot.bind (t275 hga hra (by omega) (by omega)) ?_
    rintro ⟨⟨y3,y4,y5,y6,y7⟩,y8,x⟩ ⟨hg14,hr15⟩
    have ky3:List.length y3≤(12900 - 2000*n)+2000:=hg14.1
    have ky4:List.length y4≤(12900 - 2000*n)+2000:=hg14.2.1
    have ky5:List.length y5≤(12900 - 2000*n)+2000:=hg14.2.2.1
    have ky7:List.length y7≤3:=hg14.2.2.2.2
    have hw:IntKind.wrap .i64 (v8 - 1)=v8 - 1:=wrapI (by omega) (by omega)
    rw [hw]
    exact Tot.ret ⟨⟨kv12,⟨j0,j1⟩,⟨by show (0:Int)≤v8 - 1;omega,by show v8 - 1≤(6:Int);omega⟩,hg14.mono (by show _≤12900 - 2000*Int.toNat (v8 - 1);omega),hr15.mono (by show _≤c+244 - 40*Int.toNat (v8 - 1);omega)⟩,by show Int.toNat (v8 - 1)<Int.toNat v8;omega⟩
   ·simp only [decide_eq_false_iff_not] at c13
    exact Tot.ret ⟨(by first | omega | simp <;> omega),⟨j0,j1⟩,hga.mono (by omega),hra.mono (by omega)⟩
  ·simp only [decide_eq_false_iff_not] at c12
   exact Tot.ret ⟨(by first | omega | simp <;> omega),⟨j0,j1⟩,hga.mono (by omega),hra.mono (by omega)⟩
 rintro ⟨v12,v7,⟨o13,o21,o31,o41,o51⟩,o02,o14⟩ ⟨(kv12:List.length v12≤20),i16,hg17,hr18⟩
 have ko13:List.length o13≤0+12900:=hg17.1
 have ko21:List.length o21≤0+12900:=hg17.2.1
 have ko31:List.length o31≤0+12900:=hg17.2.2.1
 have ko51:List.length o51≤3:=hg17.2.2.2.2
 refine Tot.bindE (fun y=>List.length y.1≤20∧Gt (0+14100) y.2.1∧Rd (c+248) y.2.2) ?_ ?_
 ·refine Tot.bind (t51 hr18 (by omega)) ?_
  rintro ⟨y3,y4,y5⟩ ⟨(a20:(0:Int)≤y3),(b21:(1:Int)≤(3:Int)→y3<(3:Int)),-,hr19⟩
  refine Tot.cnd (fun c22=>?_) (fun c22=>?_)
  ·simp only [decide_eq_true_eq] at c22
   refine Tot.bind (t276 i16.1 i16.2 hg17 hr19 (by omega) (by omega)) ?_
   rintro ⟨⟨y6,y7,y8,y9,y10⟩,y11,x⟩ ⟨hg23,hr24⟩
   have ky6:List.length y6≤0+14100:=hg23.1
   have ky7:List.length y7≤0+14100:=hg23.2.1
   have ky8:List.length y8≤0+14100:=hg23.2.2.1
   have ky10:List.length y10≤3:=hg23.2.2.2.2
   exact Tot.ret ⟨(by first | omega | simp <;> omega),hg23.mono (by omega),hr24.mono (by omega)⟩
  ·simp only [decide_eq_false_iff_not] at c22
   exact Tot.ret ⟨(by first | omega | simp <;> omega),hg17.mono (by omega),hr19.mono (by omega)⟩
 rintro ⟨v13,⟨o15,o22,o32,o42,o52⟩,o03,o16⟩ ⟨(kv13:List.length v13≤20),hg25,hr26⟩
 have ko15:List.length o15≤0+14100:=hg25.1
 have ko22:List.length o22≤0+14100:=hg25.2.1
 have ko32:List.length o32≤0+14100:=hg25.2.2.1
 have ko52:List.length o52≤3:=hg25.2.2.2.2
 refine Tot.bindE (fun y=>List.length y.1≤20∧Gt (0+14320) y.2.1∧Rd (c+250) y.2.2) ?_ ?_
 ·refine Tot.bind (t51 hr26 (by omega)) ?_
  rintro ⟨y3,y4,y5⟩ ⟨(a28:(0:Int)≤y3),(b29:(1:Int)≤(8:Int)→y3<(8:Int)),-,hr27⟩
  refine Tot.cnd (fun c30=>?_) (fun c30=>?_)
  ·simp only [decide_eq_true_eq] at c30
   refine Tot.bind (t277 hg25 hr27 (by omega) (by omega)) ?_
   rintro ⟨y6,⟨y7,y8,y9,y10,y11⟩,x,x1⟩ ⟨(ky6:List.length y6≤25),hg31,hr32⟩
   have ky7:List.length y7≤0+14100:=hg31.1
   have ky8:List.length y8≤0+14100:=hg31.2.1
   have ky9:List.length y9≤0+14100:=hg31.2.2.1
   have ky11:List.length y11≤3:=hg31.2.2.2.2
   refine Tot.grd (by simp <;> omega) ?_
   refine Tot.bind (t273 (by first | omega | simp <;> omega) hg31 hr32 (by omega) (by omega)) ?_
   rintro ⟨⟨y12,y13,y14,y15,y16⟩,y17,x2⟩ ⟨hg33,hr34⟩
   have ky12:List.length y12≤0+14210:=hg33.1
   have ky13:List.length y13≤0+14210:=hg33.2.1
   have ky14:List.length y14≤0+14210:=hg33.2.2.1
   have ky16:List.length y16≤3:=hg33.2.2.2.2
   refine Tot.bind (t273 (by first | omega | simp <;> omega) hg33 hr34 (by omega) (by omega)) ?_
   rintro ⟨⟨y18,y19,y20,y21,y22⟩,y23,x3⟩ ⟨hg35,hr36⟩
   have ky18:List.length y18≤0+14320:=hg35.1
   have ky19:List.length y19≤0+14320:=hg35.2.1
   have ky20:List.length y20≤0+14320:=hg35.2.2.1
   have ky22:List.length y22≤3:=hg35.2.2.2.2
   exact Tot.ret ⟨(by first | omega | simp <;> omega),hg35.mono (by omega),hr36.mono (by omega)⟩
  ·simp only [decide_eq_false_iff_not] at c30
   refine Tot.bind (t273 (by first | omega | simp <;> omega) hg25 hr27 (by omega) (by omega)) ?_
   rintro ⟨⟨y6,y7,y8,y9,y10⟩,y11,x⟩ ⟨hg37,hr38⟩
   have ky6:List.length y6≤0+14210:=hg37.1
   have ky7:List.length y7≤0+14210:=hg37.2.1
   have ky8:List.length y8≤0+14210:=hg37.2.2.1
   have ky10:List.length y10≤3:=hg37.2.2.2.2
   exact Tot.ret ⟨(by first | omega | simp <;> omega),hg37.mono (by omega),hr38.mono (by omega)⟩
 rintro ⟨v14,⟨o17,o23,o33,o43,o53⟩,o04,o18⟩ ⟨(kv14:List.length v14≤20),hg39,hr40⟩
 have ko17:List.length o17≤0+14320:=hg39.1
 have ko23:List.length o23≤0+14320:=hg39.2.1
 have ko33:List.length o33≤0+14320:=hg39.2.2.1
 have ko53:List.length o53≤3:=hg39.2.2.2.2
 refine Tot.grd (by simp <;> omega) ?_
 refine Tot.grd (by simp <;> omega) ?_
 refine Tot.grd (by simp <;> omega) ?_
 refine Tot.grd (by simp <;> omega) ?_
 refine Tot.grd (by simp <;> omega) ?_
 exact Tot.ret ⟨(by first | omega | simp <;> omega),hr40.mono (by omega)⟩
end Go.Proofs.YtdpapeledldifaaGreat
end
section
namespace Go.Proofs.YtdpapeledldifaaGreat
open Go Go.AM Go.TM Go.Stow
set_option maxRecDepth 10000
theorem zUE:fCls ([],0,0,0,[],[],[]):=by
 refine ⟨⟨by simp,by simp,by simp,by simp⟩,by simp,⟨by simp,by simp⟩,⟨by simp,by simp⟩,⟨by simp,by simp⟩,by simp,by simp,by simp⟩
theorem put_len {c:Cls} (h:put c≠[]):(pCls tI abI c).length≤900:=by
 refine Classical.byContradiction fun hn=>h (zEP fun hh=>hn hh.2.1)
theorem t139 (s:List UInt8):Tot (F139 s) fun y=>y.length≤900:=by
 unfold F139
 refine Tot.bind t218 ?_
 rintro ⟨b,c0,c1,c2,c3,c4,c5,c6⟩ hb
 refine Tot.cnd (fun _=>Tot.ret (by simp)) fun h=>?_
 have hp:=hb (by simpa using h)
 simp only at hp
 have hf:=zTO hp
 rw [p55 _ (zSM hf) (zQV hf),zAB]
 refine Tot.ret ?_
 rw [zIv _ hf]
 exact put_len hp
theorem t138 {r:List UInt8×Int} {c:Nat} (hr:Rd c r) (hc:c≤700000):Tot (F138 r) fun y=>y.1.2.length≤900∧Rd (c+601) y.2:=by
 obtain ⟨o0,o1⟩:=r
 unfold F138
 refine Tot.bind (zDA (m:=3) hr (by omega) (by simp) (by decide)) ?_
 rintro ⟨y,y1,y2⟩ ⟨(hy:List.length y≤3),hr1⟩
 refine Tot.grd (by simp;omega) (Tot.grd (by simp;omega) (Tot.bind (t217 (by simp) hr1 (by omega)) ?_))
 rintro ⟨y3,y4,y5⟩ ⟨(hy3:List.length y3≤80000),hr2⟩
 refine Tot.grd (by simp;omega) (Tot.bind (t139 _) ?_)
 intro y6 hy6
 exact Tot.ret ⟨hy6,hr2.mono (by omega)⟩
theorem got63 {l:List UInt8} {r:Bool×Cls} (h:F63 l=some r):r=(false,[],0,0,0,[],[],[])∨r.1=true:=by
 unfold F63 at h
 cases c1:decide ((900:Int)<(l.length:Int)) with
 | true=>rw [c1,zAL] at h;exact .inl (Option.some.inj h).symm
 | false =>
   rw [c1,zAJ] at h
   cases c2:F142 (l,0,false) with
   | none=>rw [c2] at h;cases h
   | some v =>
     obtain ⟨⟨y,y1,y2,y3,y4,y5,x⟩,x1,x2,x3⟩:=v
     rw [c2,zAB] at h
     cases x3 with
     | true=>exact .inl (Option.some.inj h).symm
     | false =>
       simp only [zAJ] at h
       cases c3:(!decide (x2=(l.length:Int))) with
       | true=>rw [c3,zAL] at h;exact .inl (Option.some.inj h).symm
       | false =>
         rw [c3,zAJ] at h
         cases c4:F55 (y,y1,y2,y3,y4,y5,x) with
         | none=>rw [c4] at h;cases h
         | some w =>
           rw [c4,zAB] at h
           cases c5:(!decide (w=l)) with
           | true=>rw [c5,zAL] at h;exact .inl (Option.some.inj h).symm
           | false=>rw [c5,zAJ] at h;right;rw [← Option.some.inj h]
theorem long63 {l:List UInt8} (h:¬ l.length≤900):F63 l=some (false,[],0,0,0,[],[],[]):=by
 have:(900:Int)<(l.length:Int):=by omega
 simp only [F63,this,decide_true,zAL]
theorem all63 (l:List UInt8):∃ b c,F63 l=some (b,c)∧fCls c∧(b=true→l.length≤900∧gCls l=some (c,[])∧pCls tS abS c=l)∧(∀ c',l.length≤900→gCls l=some (c',[])→pCls tS abS c'=l→b=true)∧(b=false→c=([],0,0,0,[],[],[])):=by
 by_cases hl:l.length≤900
 ·obtain ⟨b,c,h1,h2,h3⟩:=get63 l hl
  have hg:=got63 h1
  refine ⟨b,c,h1,?_,fun hb=>⟨hl,h2 hb⟩,fun c' _=>h3 c',fun hb=>?_⟩
  ·rcases hg with hg | hg
   ·simp only [Prod.mk.injEq] at hg
    have:c=([],0,0,0,[],[],[]):=by obtain ⟨-,hg⟩:=hg;exact hg ▸ rfl
    rw [this];exact zUE
   ·exact zHv _ _ _ (h2 hg).1
  ·rcases hg with hg | hg
   ·have:=congrArg Prod.snd hg;exact this
   ·simp only at hg;rw [hb] at hg;cases hg
 ·exact ⟨false,_,long63 hl,zUE,(fun h=>by cases h),fun c' h=>absurd h hl,fun _=>rfl⟩
theorem t63 (l:List UInt8):Tot (F63 l) fun y=>fCls y.2∧(pCls tS abS y.2).length≤900:=by
 obtain ⟨b,c,h1,h2,h3,_,h5⟩:=all63 l
 refine ⟨_,h1,h2,?_⟩
 cases b with
 | true=>obtain ⟨k1,-,k3⟩:=h3 rfl;simp only;rw [k3];exact k1
 | false=>rw [h5 rfl];simp [pCls,tS,w1]
theorem t56 {r:List UInt8×Int} {c:Nat} (hr:Rd c r) (hc:c≤600000):Tot (F56 r) fun y=>(fCls y.1∧(pCls tS abS y.1).length≤900)∧Rd (c+700) y.2:=by
 obtain ⟨o0,o1⟩:=r
 unfold F56
 refine Tot.bind (zDA (m:=1) hr (by omega) (by simp) (by decide)) ?_
 rintro ⟨y,y1,y2⟩ ⟨(hy:List.length y≤1),hr1⟩
 refine Tot.bindE (fun z=>Rd (c+700) z.2.2) ?_ ?_
 ·refine Tot.cnd (fun _=>Tot.bind (t138 hr1 (by omega)) ?_) fun _=>Tot.bind (t140 (by omega) hr1 (by omega)) ?_
  ·rintro ⟨⟨y3,y4⟩,y5,y6⟩ ⟨-,hr2⟩
   exact Tot.ret (hr2.mono (by omega))
  ·rintro ⟨y3,y4,y5⟩ ⟨-,hr2⟩
   refine Tot.bind (t139 _) ?_
   intro y6 _
   exact Tot.ret (hr2.mono (by omega))
 rintro ⟨t,⟨a1,a2,a3,a4,a5,a6,a7⟩,b1,b2⟩ hr2
 refine Tot.bind (t63 t) ?_
 rintro ⟨z,z1,z2,z3,z4,z5,z6,z7⟩ hz
 exact Tot.ret ⟨hz,hr2⟩
theorem t54 {s:List UInt8} {r:List UInt8×Int} {c:Nat} (hs:s.length≤1000000) (hr:Rd c r) (hc:c≤600000):Tot (F54 (s,r)) fun y=>y.1.length≤s.length+1∧Rd (c+3) y.2:=by
 obtain ⟨o0,o1⟩:=r
 have hw:IntKind.wrap .i64 ((s.length:Int)+1)=(s.length:Int)+1:=wrapI (by omega) (by omega)
 simp only [F54,hw]
 refine Tot.bind (t51 hr (by omega)) ?_
 rintro ⟨k,y1,y2⟩ ⟨(k0:0≤k),k1,-,hr1⟩
 have k1:k<(s.length:Int)+1:=k1 (by omega)
 refine Tot.bind (t51 hr1 (by omega)) ?_
 rintro ⟨y3,y4,y5⟩ ⟨-,-,-,hr2⟩
 refine Tot.bindE (fun z=>z.1=s∧Rd (c+3) z.2) ?_ ?_
 ·refine Tot.bindE (fun z=>∃ b,z=(s,k,y3,b,y4,y5)) ?_ ?_
  ·exact Tot.cnd (fun _=>Tot.ret ⟨_,rfl⟩) fun _=>Tot.ret ⟨_,rfl⟩
  rintro _ ⟨b,rfl⟩
  refine Tot.cnd (fun _=>Tot.cnd (fun h=>?_) fun _=>Tot.ret ⟨rfl,hr2.mono (by omega)⟩) fun _=>?_
  ·simp only [decide_eq_true_eq] at h
   have hw:IntKind.wrap .i64 (k+1)=k+1:=wrapI (by omega) (by omega)
   simp only [hw]
   refine Tot.grd (by simp;omega) (Tot.grd (by simp;omega) (Tot.bind (t51 hr2 (by omega)) ?_))
   rintro ⟨y6,y7,y8⟩ ⟨-,-,-,hr3⟩
   refine Tot.seq (by repeat first | exact Tot.ret trivial | refine Tot.seq ?_ ?_ | refine Tot.grd (by first | decide | simp <;> omega) ?_) ?_
   refine Tot.grd (u8ok _) ?_
   refine Tot.seq (by repeat first | exact Tot.ret trivial | refine Tot.seq ?_ ?_ | refine Tot.grd (by first | decide | simp <;> omega) ?_) ?_
   refine Tot.grd (by simp;omega) (Tot.grd (by simp;omega) (Tot.ret ⟨?_,hr3⟩))
   simp only [List.length_append,List.length_cons,List.length_nil,List.length_drop,List.length_take];omega
  ·refine Tot.cnd (fun _=>Tot.grd (by simp;omega) (Tot.ret ⟨by simp only [List.length_drop,List.length_take];omega,hr2.mono (by omega)⟩)) fun _=>Tot.cnd (fun _=>?_) fun _=>Tot.ret ⟨rfl,hr2.mono (by omega)⟩
   refine Tot.bind (t51 hr2 (by omega)) ?_
   rintro ⟨y6,y7,y8⟩ ⟨-,-,-,hr3⟩
   exact Tot.grd (u8ok _) (Tot.grd (by simp;omega) (Tot.ret ⟨by simp only [List.length_append,List.length_cons,List.length_nil];omega,hr3⟩))
 rintro ⟨s1,o1,o2⟩ ⟨hs1,hr3⟩
 simp only at hs1
 subst hs1
 exact Tot.ret ⟨by simp only;omega,hr3⟩
theorem t16 (code:List UInt8):Tot (F16 code) fun y=>y.length≤1000000:=by
 unfold F16
 refine Tot.bind (t49 code) ?_
 rintro ⟨y,y1⟩ hr
 refine Tot.bind (t56 hr (by omega)) ?_
 rintro ⟨⟨y2,y3,y4,y5,y6,y7,x⟩,x1,x2⟩ ⟨⟨hf,hl⟩,hr1⟩
 simp only at hf hr1 hl
 refine Tot.bind (P:=fun y=>y.length≤900) ⟨_,p55 _ (zSM hf) (zQV hf),hl⟩ ?_
 intro y8 h8
 refine Tot.bind (t54 (by omega) hr1 (by omega)) ?_
 rintro ⟨y9,y10,y11⟩ ⟨h9,-⟩
 exact Tot.ret (by simp only at h9;omega)
theorem t64 {a:List Cst} (ha:a.length≤1048576):Tot (F64 (a,a)) fun b=>b=true:=by
 unfold F64
 refine Tot.cnd (fun h=>by simp at h) fun _=>?_
 refine Tot.bindE (fun _=>True) (Tot.loop (fun z=>∃ i:Int,z=(a,a,i)∧0≤i∧i≤(a.length:Int)) (fun z=>a.length - z.2.2.toNat) ?_ ⟨0,rfl,by simp,by simp⟩) fun _ _=>Tot.ret rfl
 rintro _ ⟨i,rfl,i0,i1⟩
 refine Tot.cnd (fun h=>?_) fun _=>Tot.ret trivial
 simp only [decide_eq_true_eq] at h
 obtain ⟨x,ex⟩:∃ x,a[i.toNat]? = some x:=⟨a[i.toNat],List.getElem?_eq_getElem (by omega)⟩
 have hw:IntKind.wrap .i64 (i+1)=i+1:=wrapI (by omega) (by omega)
 refine Tot.grd (by simpa using i0) (Tot.at' ex (Tot.grd (by simpa using i0) (Tot.at' ex (Tot.cnd (fun h=>by simp at h) fun _=>?_))))
 simp only [hw]
 exact Tot.ret ⟨⟨_,rfl,by omega,by omega⟩,by show a.length - (i+1).toNat<a.length - i.toNat;omega⟩
theorem t42 {a:List Int} (ha:a.length≤1048576):Tot (F42 (a,a)) fun b=>b=true:=by
 unfold F42
 refine Tot.cnd (fun h=>by simp at h) fun _=>?_
 refine Tot.bindE (fun _=>True) (Tot.loop (fun z=>∃ i:Int,z=(a,a,i)∧0≤i∧i≤(a.length:Int)) (fun z=>a.length - z.2.2.toNat) ?_ ⟨0,rfl,by simp,by simp⟩) fun _ _=>Tot.ret rfl
 rintro _ ⟨i,rfl,i0,i1⟩
 refine Tot.cnd (fun h=>?_) fun _=>Tot.ret trivial
 simp only [decide_eq_true_eq] at h
 obtain ⟨x,ex⟩:∃ x,a[i.toNat]? = some x:=⟨a[i.toNat],List.getElem?_eq_getElem (by omega)⟩
 have hw:IntKind.wrap .i64 (i+1)=i+1:=wrapI (by omega) (by omega)
 refine Tot.grd (by simpa using i0) (Tot.at' ex (Tot.grd (by simpa using i0) (Tot.at' ex (Tot.cnd (fun h=>by simp at h) fun _=>?_))))
 simp only [hw]
 exact Tot.ret ⟨⟨_,rfl,by omega,by omega⟩,by show a.length - (i+1).toNat<a.length - i.toNat;omega⟩
theorem t143 {a:List Knd} (ha:a.length≤1048576):Tot (F143 (a,a)) fun b=>b=true:=by
 unfold F143
 refine Tot.cnd (fun h=>by simp at h) fun _=>?_
 refine Tot.bindE (fun _=>True) (Tot.loop (fun z=>∃ i:Int,z=(a,a,i)∧0≤i∧i≤(a.length:Int)) (fun z=>a.length - z.2.2.toNat) ?_ ⟨0,rfl,by simp,by simp⟩) fun _ _=>Tot.ret rfl
 rintro _ ⟨i,rfl,i0,i1⟩
 refine Tot.cnd (fun h=>?_) fun _=>Tot.ret trivial
 simp only [decide_eq_true_eq] at h
 obtain ⟨x,ex⟩:∃ x,a[i.toNat]? = some x:=⟨a[i.toNat],List.getElem?_eq_getElem (by omega)⟩
 have hw:IntKind.wrap .i64 (i+1)=i+1:=wrapI (by omega) (by omega)
 refine Tot.grd (by simpa using i0) (Tot.at' ex (Tot.grd (by simpa using i0) (Tot.at' ex (Tot.cnd (fun h=>by simp at h) fun _=>?_))))
 simp only [hw]
 exact Tot.ret ⟨⟨_,rfl,by omega,by omega⟩,by show a.length - (i+1).toNat<a.length - i.toNat;omega⟩
theorem t65 {m:Mth} (hm:bMth m):Tot (F65 (m,m)) fun b=>b=true:=by
 obtain ⟨a0,a1,a2,a3,a4,a5,a6,a7⟩:=m
 obtain ⟨h1,h2,h3,h4⟩:=hm
 simp only at h1 h2 h3 h4
 unfold F65
 refine Tot.bindE (fun z=>z=((a0,a1,a2,a3,a4,a5,a6,a7),a0,a1,a2,a3,a4,a5,a6,a7)) ?_ ?_
 ·exact Tot.cnd (fun h=>by simp at h) fun _=>Tot.cnd (fun h=>by simp at h) fun _=>Tot.cnd (fun h=>by simp at h) fun _=>Tot.cnd (fun h=>by simp at h) fun _=>Tot.cnd (fun h=>by simp at h) fun _=>Tot.cnd (fun h=>by simp at h) fun _=>Tot.cnd (fun h=>by simp at h) fun _=>Tot.cnd (fun h=>by simp at h) fun _=>Tot.ret rfl
 rintro _ rfl
 refine Tot.bindE (fun z=>z=((a0,a1,a2,a3,a4,a5,a6,a7),a0,a1,a2,a3,a4,a5,a6,a7)) (Tot.loop (fun z=>∃ i:Int,z=(i,(a0,a1,a2,a3,a4,a5,a6,a7),a0,a1,a2,a3,a4,a5,a6,a7)∧0≤i∧i≤(a6.length:Int)) (fun z=>a6.length - z.1.toNat) ?_ ⟨0,rfl,by simp,by simp⟩) ?_
 ·rintro _ ⟨i,rfl,i0,i1⟩
  refine Tot.cnd (fun h=>?_) fun _=>Tot.ret rfl
  simp only [decide_eq_true_eq] at h
  obtain ⟨x,ex⟩:∃ x,a6[i.toNat]? = some x:=⟨a6[i.toNat],List.getElem?_eq_getElem (by omega)⟩
  have hw:IntKind.wrap .i64 (i+1)=i+1:=wrapI (by omega) (by omega)
  refine Tot.grd (by simpa using i0) (Tot.at' ex (Tot.grd (by simpa using i0) (Tot.at' ex (Tot.cnd (fun h=>by simp at h) fun _=>?_))))
  simp only [hw]
  exact Tot.ret ⟨⟨_,rfl,by omega,by omega⟩,by show a6.length - (i+1).toNat<a6.length - i.toNat;omega⟩
 rintro _ rfl
 refine Tot.bindE (fun _=>True) (Tot.loop (fun z=>∃ i:Int,z=(i,(a0,a1,a2,a3,a4,a5,a6,a7),a0,a1,a2,a3,a4,a5,a6,a7)∧0≤i∧i≤(a7.length:Int)) (fun z=>a7.length - z.1.toNat) ?_ ⟨0,rfl,by simp,by simp⟩) fun _ _=>Tot.ret rfl
 rintro _ ⟨i,rfl,i0,i1⟩
 refine Tot.cnd (fun h=>?_) fun _=>Tot.ret trivial
 simp only [decide_eq_true_eq] at h
 obtain ⟨x,ex⟩:∃ x,a7[i.toNat]? = some x:=⟨a7[i.toNat],List.getElem?_eq_getElem (by omega)⟩
 have hx:=h4 x (List.mem_of_getElem? ex)
 have hw:IntKind.wrap .i64 (i+1)=i+1:=wrapI (by omega) (by omega)
 refine Tot.bindE (fun z=>z=(i,(a0,a1,a2,a3,a4,a5,a6,a7),a0,a1,a2,a3,a4,a5,a6,a7)) ?_ ?_
 ·refine Tot.grd (by simpa using i0) (Tot.at' ex (Tot.grd (by simpa using i0) (Tot.at' ex (Tot.cnd (fun h=>by simp at h) fun _=>?_))))
  refine Tot.grd (by simpa using i0) (Tot.at' ex (Tot.grd (by simpa using i0) (Tot.at' ex (Tot.bind (t143 hx.1) ?_))))
  rintro _ rfl
  refine Tot.cnd (fun h=>by simp at h) fun _=>?_
  refine Tot.grd (by simpa using i0) (Tot.at' ex (Tot.grd (by simpa using i0) (Tot.at' ex (Tot.bind (t143 hx.2) ?_))))
  rintro _ rfl
  exact Tot.cnd (fun h=>by simp at h) fun _=>Tot.ret rfl
 rintro _ rfl
 simp only [hw]
 exact Tot.ret ⟨⟨_,rfl,by omega,by omega⟩,by show a7.length - (i+1).toNat<a7.length - i.toNat;omega⟩
theorem t19 {c:Cls} (hc:bCls c):Tot (F19 (c,c)) fun b=>b=true:=by
 obtain ⟨a0,a1,a2,a3,a4,a5,a6⟩:=c
 obtain ⟨⟨h1,_⟩,h2,h3,h4,h5⟩:=hc
 simp only at h1 h2 h3 h4 h5
 unfold F19
 refine Tot.bindE (fun z=>z=((a0,a1,a2,a3,a4,a5,a6),a0,a1,a2,a3,a4,a5,a6)) ?_ ?_
 ·refine Tot.bind (t64 h1) ?_
  rintro _ rfl
  refine Tot.cnd (fun h=>by simp at h) fun _=>Tot.cnd (fun h=>by simp at h) fun _=>Tot.cnd (fun h=>by simp at h) fun _=>Tot.cnd (fun h=>by simp at h) fun _=>Tot.bind (t42 h2) ?_
  rintro _ rfl
  exact Tot.cnd (fun h=>by simp at h) fun _=>Tot.cnd (fun h=>by simp at h) fun _=>Tot.cnd (fun h=>by simp at h) fun _=>Tot.ret rfl
 rintro _ rfl
 refine Tot.bindE (fun z=>z=((a0,a1,a2,a3,a4,a5,a6),a0,a1,a2,a3,a4,a5,a6)) (Tot.loop (fun z=>∃ i:Int,z=(i,(a0,a1,a2,a3,a4,a5,a6),a0,a1,a2,a3,a4,a5,a6)∧0≤i∧i≤(a5.length:Int)) (fun z=>a5.length - z.1.toNat) ?_ ⟨0,rfl,by simp,by simp⟩) ?_
 ·rintro _ ⟨i,rfl,i0,i1⟩
  refine Tot.cnd (fun h=>?_) fun _=>Tot.ret rfl
  simp only [decide_eq_true_eq] at h
  obtain ⟨x,ex⟩:∃ x,a5[i.toNat]? = some x:=⟨a5[i.toNat],List.getElem?_eq_getElem (by omega)⟩
  have hw:IntKind.wrap .i64 (i+1)=i+1:=wrapI (by omega) (by omega)
  refine Tot.grd (by simpa using i0) (Tot.at' ex (Tot.grd (by simpa using i0) (Tot.at' ex (Tot.cnd (fun h=>by simp at h) fun _=>?_))))
  simp only [hw]
  exact Tot.ret ⟨⟨_,rfl,by omega,by omega⟩,by show a5.length - (i+1).toNat<a5.length - i.toNat;omega⟩
 rintro _ rfl
 refine Tot.bindE (fun _=>True) (Tot.loop (fun z=>∃ i:Int,z=(i,(a0,a1,a2,a3,a4,a5,a6),a0,a1,a2,a3,a4,a5,a6)∧0≤i∧i≤(a6.length:Int)) (fun z=>a6.length - z.1.toNat) ?_ ⟨0,rfl,by simp,by simp⟩) fun _ _=>Tot.ret rfl
 rintro _ ⟨i,rfl,i0,i1⟩
 refine Tot.cnd (fun h=>?_) fun _=>Tot.ret trivial
 simp only [decide_eq_true_eq] at h
 obtain ⟨x,ex⟩:∃ x,a6[i.toNat]? = some x:=⟨a6[i.toNat],List.getElem?_eq_getElem (by omega)⟩
 have hx:=h5 x (List.mem_of_getElem? ex)
 have hw:IntKind.wrap .i64 (i+1)=i+1:=wrapI (by omega) (by omega)
 refine Tot.grd (by simpa using i0) (Tot.at' ex (Tot.grd (by simpa using i0) (Tot.at' ex (Tot.bind (t65 (m:=x) hx) ?_))))
 rintro _ rfl
 refine Tot.cnd (fun h=>by simp at h) fun _=>?_
 simp only [hw]
 exact Tot.ret ⟨⟨_,rfl,by omega,by omega⟩,by show a6.length - (i+1).toNat<a6.length - i.toNat;omega⟩
end Go.Proofs.YtdpapeledldifaaGreat
end
section
namespace Go.Proofs.YtdpapeledldifaaGreat
open Go Go.AM Go.TM
def Ext {β:Type} (g:List UInt8→Option (β×List UInt8)):Prop:=∀ l v r b,g l=some (v,r)→g (l++b)=some (v,r++b)
theorem Ext.ret {β:Type} (v:β):Ext fun l=>some (v,l):=by
 intro l w r b h
 simp only [Option.some.injEq,Prod.mk.injEq] at h
 rw [h.1,h.2]
theorem Ext.no {β:Type}:Ext fun _=>(none:Option (β×List UInt8)):=fun _ _ _ _ h=>by cases h
theorem Ext.bind {α β:Type} {g:List UInt8→Option (α×List UInt8)} {k:α→List UInt8→Option (β×List UInt8)} (hg:Ext g) (hk:∀ v,Ext (k v)):Ext fun l=>(g l).bind fun p=>k p.1 p.2:=by
 intro l w r b h
 simp only at h ⊢
 cases e:g l with
 | none=>rw [e] at h;cases h
 | some p =>
   obtain ⟨v,l'⟩:=p
   rw [e] at h
   rw [hg l v l' b e]
   exact hk v l' w r b h
theorem Ext.ite {β:Type} {c:Prop} [Decidable c] {g k:List UInt8→Option (β×List UInt8)} (hg:Ext g) (hk:Ext k):Ext fun l=>if c then g l else k l:=by
 by_cases hc:c
 ·simp only [hc,if_true];exact hg
 ·simp only [hc,if_false];exact hk
theorem zEY:Ext g1:=by
 intro l v r b h
 cases l with
 | nil=>cases h
 | cons x l =>
   simp only [g1,Option.some.injEq,Prod.mk.injEq] at h
   obtain ⟨rfl,rfl⟩:=h
   rfl
theorem zCU:Ext g2:=zEY.bind (k:=fun v l=>(g1 l).bind fun q=>some (v*256+q.1,q.2)) fun v=>zEY.bind (k:=fun q l=>some (v*256+q,l)) fun _=>.ret _
theorem zUI (n:Int):Ext (gT n):=by
 intro l v r b h
 unfold gT at h ⊢
 split at h
 ·simp only [Option.some.injEq,Prod.mk.injEq] at h
  obtain ⟨rfl,rfl⟩:=h
  rw [if_pos (by simp only [List.length_append];omega),List.take_append_of_le_length (by omega),List.drop_append_of_le_length (by omega)]
 ·cases h
theorem zUG {β:Type} {g:List UInt8→Option (β×List UInt8)} (hg:Ext g):∀ n,Ext (gRep g n)
 | 0=>.ret _
 | n+1=>hg.bind (k:=fun v l=>(gRep g n l).bind fun q=>some (v :: q.1,q.2)) fun v=>(zUG hg n).bind (k:=fun q l=>some (v :: q,l)) fun _=>.ret _
theorem zDL {β:Type} {g:List UInt8→Option (β×List UInt8)} (most:Int) (hg:Ext g):Ext (zBM most g) :=
 zEY.bind (k:=fun n l=>if most<n then none else gRep g n.toNat l) fun n=>Ext.no.ite (zUG hg _)
theorem ext_ent (t:Int):Ext (gEnt t) :=
 Ext.ite (zEY.bind (k:=fun n l=>(gT n l).bind fun q=>some ((1,q.1,0,0),q.2)) fun n=>(zUI n).bind (k:=fun q l=>some ((1,q,0,0),l)) fun _=>.ret _)
  (Ext.ite (zCU.bind (k:=fun n l=>some ((2,[],n,0),l)) fun _=>.ret _)
   (Ext.ite (zCU.bind (k:=fun n l=>(g2 l).bind fun q=>some ((t,[],n,q.1),q.2)) fun n=>zCU.bind (k:=fun q l=>some ((t,[],n,q),l)) fun _=>.ret _) .no))
theorem zUJ:Ext zCB:=zEY.bind ext_ent
theorem zUH:Ext gKnd:=zEY.bind (k:=fun t l=>if t=3 then (g2 l).bind fun q=>some ((3,q.1),q.2) else if 3<t then none else some ((t,0),l)) fun t =>
 (zCU.bind (k:=fun q l=>some ((3,q),l)) fun _=>.ret _).ite (Ext.no.ite (.ret _))
theorem ext_trp:Ext gTrp:=zCU.bind (k:=fun p l=>(g2 l).bind fun q=>(g2 q.2).bind fun r=>(g2 r.2).bind fun s=>some ((p,q.1,r.1,s.1),s.2)) fun p =>
 zCU.bind (k:=fun q l=>(g2 l).bind fun r=>(g2 r.2).bind fun s=>some ((p,q,r.1,s.1),s.2)) fun q=>zCU.bind (k:=fun r l=>(g2 l).bind fun s=>some ((p,q,r,s.1),s.2)) fun r=>zCU.bind (k:=fun s l=>some ((p,q,r,s),l)) fun _=>.ret _
theorem ext_frm:Ext gFrm:=zCU.bind (k:=fun p l=>(zBM 8 gKnd l).bind fun q=>(zBM 8 gKnd q.2).bind fun r=>some ((p,q.1,r.1),r.2)) fun p =>
 (zDL 8 zUH).bind (k:=fun q l=>(zBM 8 gKnd l).bind fun r=>some ((p,q,r.1),r.2)) fun q=>(zDL 8 zUH).bind (k:=fun r l=>some ((p,q,r),l)) fun _=>.ret _
theorem ext_fld:Ext gFld:=zEY.bind (k:=fun p l=>(g2 l).bind fun q=>(g2 q.2).bind fun r=>some ((p,q.1,r.1),r.2)) fun p =>
 zCU.bind (k:=fun q l=>(g2 l).bind fun r=>some ((p,q,r.1),r.2)) fun q=>zCU.bind (k:=fun r l=>some ((p,q,r),l)) fun _=>.ret _
theorem ext_b7 (f n d s lo:Int) (code:List UInt8) (tr:List Trp):Ext (b7 f n d s lo code tr):=(zDL 8 ext_frm).bind (k:=fun p l=>some ((f,n,d,s,lo,code,tr,p),l)) fun _=>.ret _
theorem ext_b6 (f n d s lo:Int) (code:List UInt8):Ext (b6 f n d s lo code):=(zDL 3 ext_trp).bind fun _=>ext_b7 _ _ _ _ _ _ _
theorem ext_b5 (f n d s lo c:Int):Ext (b5 f n d s lo c):=Ext.no.ite ((zUI c).bind fun _=>ext_b6 _ _ _ _ _ _)
theorem ext_b4 (f n d s lo:Int):Ext (b4 f n d s lo):=zCU.bind fun _=>ext_b5 _ _ _ _ _ _
theorem ext_b3 (f n d s:Int):Ext (b3 f n d s):=zEY.bind fun _=>ext_b4 _ _ _ _ _
theorem ext_body (f n d:Int):Ext (zSL f n d):=zEY.bind fun _=>ext_b3 _ _ _ _
theorem ext_m3 (f n d:Int):Ext (m3 f n d):=(Ext.ret _).ite (ext_body _ _ _)
theorem ext_m2 (f n:Int):Ext (m2 f n):=zCU.bind fun _=>ext_m3 _ _ _
theorem ext_m1 (f:Int):Ext (m1 f):=zCU.bind fun _=>ext_m2 _ _
theorem ext_mth:Ext gMth:=zEY.bind fun _=>ext_m1 _
theorem ext_gc8 (pool:List Cst) (f n s:Int) (fa:List Int) (fi:List Fld):Ext (gc8 pool f n s fa fi):=(zDL 6 ext_mth).bind (k:=fun p l=>some ((pool,f,n,s,fa,fi,p),l)) fun _=>.ret _
theorem ext_gc7 (pool:List Cst) (f n s:Int) (fa:List Int):Ext (gc7 pool f n s fa):=(zDL 5 ext_fld).bind fun _=>ext_gc8 _ _ _ _ _ _
theorem ext_gc6 (pool:List Cst) (f n s:Int):Ext (gc6' pool f n s):=(zDL 3 zCU).bind fun _=>ext_gc7 _ _ _ _ _
theorem ext_gc5 (pool:List Cst) (f n:Int):Ext (gc5 pool f n):=zCU.bind fun _=>ext_gc6 _ _ _ _
theorem ext_gc4 (pool:List Cst) (f:Int):Ext (gc4 pool f):=zCU.bind fun _=>ext_gc5 _ _ _
theorem ext_gc3 (pool:List Cst):Ext (gc3 pool):=zEY.bind fun _=>ext_gc4 _ _
theorem ext_gc2:Ext gc2:=(zDL 60 zUJ).bind fun _=>ext_gc3 _
theorem ext_gc1 (t:List UInt8):Ext (gc1 t):=Ext.no.ite ext_gc2
theorem zUK:Ext gCls:=(zUI 4).bind fun _=>ext_gc1 _
theorem cls_less {l:List UInt8} {c:Cls} (h:gCls l=some (c,[])) {k:Nat} (hk:k<l.length) (c':Cls):gCls (l.take k)≠some (c',[]):=by
 intro h'
 have e:=zUK _ _ _ (l.drop k) h'
 rw [List.take_append_drop,h] at e
 simp only [List.nil_append,Option.some.injEq,Prod.mk.injEq] at e
 have:=congrArg List.length e.2
 simp only [List.length_nil,List.length_drop] at this
 omega
theorem cls_plus {l:List UInt8} {c:Cls} (h:gCls l=some (c,[])) (x:UInt8) (c':Cls):gCls (l++[x])≠some (c',[]):=by
 rw [zUK _ _ _ [x] h]
 simp
theorem w1_byte (x:UInt8):w1 (x.toNat:Int)=[x]:=by
 have h:IntKind.wrap .u8 (x.toNat:Int)=(x.toNat:Int):=by
  have h:IntKind.wrap .u8 (x.toNat:Int)=(x.toNat:Int) % 256:=by simp [IntKind.wrap,IntKind.bits,IntKind.signed]
  have:=x.toNat_lt
  rw [h];omega
 unfold w1
 rw [h,Int.toNat_natCast,UInt8.ofNat_toNat]
theorem inv1 {l r:List UInt8} {v:Int} (h:g1 l=some (v,r)):l=w1 v++r:=by
 cases l with
 | nil=>cases h
 | cons x l =>
   simp only [g1,Option.some.injEq,Prod.mk.injEq] at h
   obtain ⟨rfl,rfl⟩:=h
   rw [w1_byte];rfl
theorem inv2 {l r:List UInt8} {v:Int} (h:g2 l=some (v,r)):l=tS v++r:=by
 obtain ⟨⟨a,l1⟩,h1,h⟩:=zAU h
 obtain ⟨⟨b,l2⟩,h2,h⟩:=zAU h
 simp only [Option.some.injEq,Prod.mk.injEq] at h
 obtain ⟨rfl,rfl⟩:=h
 have ha:=zBn h1
 have hb:=zBn h2
 have e1:Int.tdiv (a*256+b) 256=a:=by rw [Int.tdiv_eq_ediv_of_nonneg (by omega)];omega
 have e2:Int.tmod (a*256+b) 256=b:=by rw [Int.tmod_eq_emod_of_nonneg (by omega)];omega
 unfold tS
 try dsimp only at *
 rw [e1,e2,wI (by omega) (by omega),inv1 h1,inv1 h2,List.append_assoc]
theorem invT {n:Int} {l t r:List UInt8} (h:gT n l=some (t,r)):l=t++r:=by
 unfold gT at h
 split at h
 ·simp only [Option.some.injEq,Prod.mk.injEq] at h
  obtain ⟨rfl,rfl⟩:=h
  exact (List.take_append_drop _ _).symm
 ·cases h
theorem zRO {n:Int} {l t r:List UInt8} (h:gT n l=some (t,r)) (hn:0≤n):(t.length:Int)=n:=by
 unfold gT at h
 split at h
 ·simp only [Option.some.injEq,Prod.mk.injEq] at h
  obtain ⟨rfl,rfl⟩:=h
  rw [List.length_take];omega
 ·cases h
theorem invRep {β:Type} {g:List UInt8→Option (β×List UInt8)} {p:β→List UInt8} (hg:∀ {l v r},g l=some (v,r)→l=p v++r):∀ {n:Nat} {l:List UInt8} {vs:List β} {r:List UInt8},gRep g n l=some (vs,r)→l=(vs.map p).flatten++r
 | 0,l,vs,r,h=>by simp only [gRep,Option.some.injEq,Prod.mk.injEq] at h;rw [← h.1,h.2];rfl
 | n+1,l,vs,r,h=>by
   simp only [gRep] at h
   obtain ⟨⟨v,l1⟩,h1,h⟩:=zAU h
   obtain ⟨⟨ws,l2⟩,h2,h⟩:=zAU h
   simp only [Option.some.injEq,Prod.mk.injEq] at h
   obtain ⟨rfl,rfl⟩:=h
   try dsimp only at *
   rw [hg h1,invRep hg h2,List.map_cons,List.flatten_cons,List.append_assoc]
theorem zEV {β:Type} {most:Int} {g:List UInt8→Option (β×List UInt8)} {p:β→List UInt8} (hg:∀ {l v r},g l=some (v,r)→l=p v++r) {l r:List UInt8} {vs:List β} (h:zBM most g l=some (vs,r)):l=w1 vs.length++((vs.map p).flatten++r):=by
 obtain ⟨⟨n,l1⟩,h1,h2⟩:=zAU h
 simp only at h2
 split at h2
 ·cases h2
 ·have hn:=zBn h1
  have hl:=zMO _ _ _ _ h2
  have e:(vs.length:Int)=n:=by omega
  rw [e,inv1 h1,invRep hg h2]
theorem invEnt {l r:List UInt8} {v:Cst} (h:zCB l=some (v,r)):l=pEnt tS v++r:=by
 obtain ⟨⟨t,l1⟩,h1,h2⟩:=zAU h
 simp only at h2
 try dsimp only at *
 rw [inv1 h1]
 unfold gEnt at h2
 unfold pEnt
 by_cases c1:t=1
 ·rw [if_pos c1] at h2
  obtain ⟨⟨n,l2⟩,h3,h4⟩:=zAU h2
  obtain ⟨⟨q,l3⟩,h5,h6⟩:=zAU h4
  simp only [Option.some.injEq,Prod.mk.injEq] at h6
  obtain ⟨rfl,rfl⟩:=h6
  simp only [if_true]
  try dsimp only at *
  rw [zRO h5 (zBn h3).1,inv1 h3,invT h5,c1]
  simp only [List.append_assoc]
 ·rw [if_neg c1] at h2
  by_cases c2:t=2
  ·rw [if_pos c2] at h2
   obtain ⟨⟨n,l2⟩,h3,h4⟩:=zAU h2
   simp only [Option.some.injEq,Prod.mk.injEq] at h4
   obtain ⟨rfl,rfl⟩:=h4
   have:¬ (2:Int)=1:=by decide
   simp only [this,if_false,if_true]
   try dsimp only at *
   rw [inv2 h3,c2,List.append_assoc]
  ·rw [if_neg c2] at h2
   split at h2
   ·obtain ⟨⟨n,l2⟩,h3,h4⟩:=zAU h2
    obtain ⟨⟨n2,l3⟩,h5,h6⟩:=zAU h4
    simp only [Option.some.injEq,Prod.mk.injEq] at h6
    obtain ⟨rfl,rfl⟩:=h6
    simp only [c1,c2,if_false]
    try dsimp only at *
    rw [inv2 h3,inv2 h5]
    simp only [List.append_assoc]
   ·cases h2
theorem invKnd {l r:List UInt8} {v:Knd} (h:gKnd l=some (v,r)):l=pKnd tS v++r:=by
 obtain ⟨⟨t,l1⟩,h1,h2⟩:=zAU h
 simp only at h2
 try dsimp only at *
 rw [inv1 h1]
 unfold pKnd
 by_cases c1:t=3
 ·rw [if_pos c1] at h2
  obtain ⟨⟨n,l2⟩,h3,h4⟩:=zAU h2
  simp only [Option.some.injEq,Prod.mk.injEq] at h4
  obtain ⟨rfl,rfl⟩:=h4
  simp only [if_true]
  try dsimp only at *
  rw [inv2 h3,c1,List.append_assoc]
 ·rw [if_neg c1] at h2
  split at h2
  ·cases h2
  ·simp only [Option.some.injEq,Prod.mk.injEq] at h2
   obtain ⟨rfl,rfl⟩:=h2
   simp only [c1,if_false,List.append_nil]
theorem invTrp {l r:List UInt8} {v:Trp} (h:gTrp l=some (v,r)):l=pTrp tS v++r:=by
 obtain ⟨⟨a,l1⟩,h1,h⟩:=zAU h
 obtain ⟨⟨b,l2⟩,h2,h⟩:=zAU h
 obtain ⟨⟨c,l3⟩,h3,h⟩:=zAU h
 obtain ⟨⟨d,l4⟩,h4,h⟩:=zAU h
 simp only [Option.some.injEq,Prod.mk.injEq] at h
 obtain ⟨rfl,rfl⟩:=h
 unfold pTrp
 try dsimp only at *
 rw [inv2 h1,inv2 h2,inv2 h3,inv2 h4]
 simp only [List.append_assoc]
theorem invFrm {l r:List UInt8} {v:Frm} (h:gFrm l=some (v,r)):l=pFrm tS v++r:=by
 obtain ⟨⟨a,l1⟩,h1,h⟩:=zAU h
 obtain ⟨⟨b,l2⟩,h2,h⟩:=zAU h
 obtain ⟨⟨c,l3⟩,h3,h⟩:=zAU h
 simp only [Option.some.injEq,Prod.mk.injEq] at h
 obtain ⟨rfl,rfl⟩:=h
 unfold pFrm zIL
 try dsimp only at *
 rw [inv2 h1,zEV invKnd h2,zEV invKnd h3]
 simp only [List.append_assoc]
theorem invFld {l r:List UInt8} {v:Fld} (h:gFld l=some (v,r)):l=pFld tS v++r:=by
 obtain ⟨⟨a,l1⟩,h1,h⟩:=zAU h
 obtain ⟨⟨b,l2⟩,h2,h⟩:=zAU h
 obtain ⟨⟨c,l3⟩,h3,h⟩:=zAU h
 simp only [Option.some.injEq,Prod.mk.injEq] at h
 obtain ⟨rfl,rfl⟩:=h
 unfold pFld
 try dsimp only at *
 rw [inv1 h1,inv2 h2,inv2 h3]
 simp only [List.append_assoc]
theorem zUb {f:Int} (h0:0≤f) (h1:f≤255):abS f=true↔zIO f:=by
 unfold abS zIO
 have e:Int.tdiv (Int.tmod f 16) 8=f % 16 / 8:=by rw [Int.tmod_eq_emod_of_nonneg h0,Int.tdiv_eq_ediv_of_nonneg (by omega)]
 rw [e,wI (by omega) (by omega),decide_eq_true_eq]
theorem invMth {l r:List UInt8} {v:Mth} (h:gMth l=some (v,r)):l=pMth tS abS v++r:=by
 obtain ⟨⟨f,l1⟩,h1,h⟩:=zAU h
 obtain ⟨⟨n,l2⟩,h2,h⟩:=zAU h
 obtain ⟨⟨d,l3⟩,h3,h⟩:=zAU h
 have hf:=zBn h1
 simp only at h
 unfold pMth
 try dsimp only at *
 rw [inv1 h1,inv2 h2,inv2 h3]
 unfold m3 at h
 by_cases c:zIO f
 ·rw [if_pos c] at h
  simp only [Option.some.injEq,Prod.mk.injEq] at h
  obtain ⟨rfl,rfl⟩:=h
  have:abS f=true:=(zUb hf.1 hf.2).2 c
  simp only [this,if_true,List.append_nil,List.append_assoc]
 ·rw [if_neg c] at h
  have ha:¬ abS f=true:=fun e=>c ((zUb hf.1 hf.2).1 e)
  obtain ⟨⟨s,l4⟩,h4,h⟩:=zAU h
  obtain ⟨⟨lo,l5⟩,h5,h⟩:=zAU h
  obtain ⟨⟨k,l6⟩,h6,h⟩:=zAU h
  simp only at h
  unfold b5 at h
  split at h
  ·cases h
  obtain ⟨⟨code,l7⟩,h7,h⟩:=zAU h
  obtain ⟨⟨tr,l8⟩,h8,h⟩:=zAU h
  obtain ⟨⟨fr,l9⟩,h9,h⟩:=zAU h
  simp only [Option.some.injEq,Prod.mk.injEq] at h
  obtain ⟨rfl,rfl⟩:=h
  simp only [ha]
  try dsimp only at *
  rw [inv1 h4,inv1 h5,inv2 h6,invT h7,zEV invTrp h8,zEV invFrm h9,zRO h7 (zRS h6).1]
  simp only [List.append_assoc,Bool.false_eq_true,if_false]
theorem invCls {l r:List UInt8} {v:Cls} (h:gCls l=some (v,r)):l=pCls tS abS v++r:=by
 obtain ⟨⟨t,l1⟩,h1,h⟩:=zAU h
 simp only at h
 unfold gc1 at h
 split at h
 ·cases h
 rename_i ht
 have ht:t=[83,84,79,87]:=Classical.not_not.1 ht
 obtain ⟨⟨p,l2⟩,h2,h⟩:=zAU h
 obtain ⟨⟨f,l3⟩,h3,h⟩:=zAU h
 obtain ⟨⟨n,l4⟩,h4,h⟩:=zAU h
 obtain ⟨⟨s,l5⟩,h5,h⟩:=zAU h
 obtain ⟨⟨fa,l6⟩,h6,h⟩:=zAU h
 obtain ⟨⟨fi,l7⟩,h7,h⟩:=zAU h
 obtain ⟨⟨ms,l8⟩,h8,h⟩:=zAU h
 simp only [Option.some.injEq,Prod.mk.injEq] at h
 obtain ⟨rfl,rfl⟩:=h
 unfold pCls
 try dsimp only at *
 rw [invT h1,ht,zEV invEnt h2,inv1 h3,inv2 h4,inv2 h5,zEV inv2 h6,zEV invFld h7,zEV invMth h8]
 simp only [List.append_assoc]
end Go.Proofs.YtdpapeledldifaaGreat
end
section
namespace Go.Proofs.YtdpapeledldifaaGreat
open Go Go.AM Go.TM Go.Stow
set_option maxRecDepth 10000
theorem got_put {l:List UInt8} {c:Cls} (h:gCls l=some (c,[])) (hl:l.length≤900):put c=l:=by
 have hf:=zHv _ _ _ h
 have e:pCls tI abI c=l:=by
  have:=invCls h
  rw [List.append_nil] at this
  rw [← zIv _ hf];exact this.symm
 rw [zPy ⟨hf,by rw [e];exact hl,by rw [e];exact h⟩,e]
theorem got17 {l:List UInt8} {c:Cls} (h:gCls l=some (c,[])) (hl:l.length≤900):F17 l=some (true,c):=by
 have:=i17 l hl
 unfold zDP at this
 rw [h] at this
 exact this
theorem not17 {l:List UInt8} (h:l.length≤900→∀ c,gCls l≠some (c,[])):F17 l=some (false,[],0,0,0,[],[],[]):=by
 by_cases hl:l.length≤900
 ·have h:=h hl
  have:=i17 l hl
  unfold zDP at this
  rw [this]
  cases e:gCls l with
  | none=>rfl
  | some p =>
    obtain ⟨c,r⟩:=p
    cases r with
    | nil=>exact absurd e (h c)
    | cons x r=>rfl
 ·have:(900:Int)<(l.length:Int):=by omega
  simp only [F17,this,decide_true,zAL]
theorem true4 (app more:List UInt8):F4 (app,more)=some true:=by
 have hgo:Tot (F4 (app,more)) fun b=>b=true:=by
  unfold F4
  refine Tot.bindE (fun z=>z=(app,more)) ?_ ?_
  ·exact Tot.cnd (fun _=>Tot.ret rfl) fun _=>Tot.cnd (fun _=>Tot.ret rfl) fun _=>Tot.ret rfl
  rintro _ rfl
  refine Tot.bind (t16 app) ?_
  intro l hl
  obtain ⟨b,c,h1,h2,h3,h4,h5⟩:=all63 l
  have hc:=zSM h2
  have e17:F17 l=some (b,c):=by
   cases b with
   | true=>obtain ⟨k1,k2,k3⟩:=h3 rfl;exact got17 k2 k1
   | false =>
     rw [h5 rfl]
     refine not17 fun hl c' hg=>?_
     have:=h4 c' hl hg (by have:=invCls hg;rw [List.append_nil] at this;exact this.symm)
     cases this
  refine Tot.bind (P:=fun y=>y=(b,c)) ⟨_,e17,rfl⟩ ?_
  obtain ⟨a0,a1,a2,a3,a4,a5,a6⟩:=c
  rintro _ rfl
  refine Tot.bind (P:=fun y=>y=(b,a0,a1,a2,a3,a4,a5,a6)) ?_ ?_
  ·simp only [F18,h1,zAB]
   exact Tot.ret rfl
  rintro _ rfl
  refine Tot.bindE (fun z=>z=(more,l,b,b,!b,(a0,a1,a2,a3,a4,a5,a6),a0,a1,a2,a3,a4,a5,a6)) ?_ ?_
  ·refine Tot.cnd (fun h=>by simp at h) fun _=>Tot.bind (t19 hc) ?_
   rintro _ rfl
   exact Tot.cnd (fun h=>by cases h) fun _=>Tot.ret rfl
  rintro _ rfl
  refine Tot.cnd (fun _=>Tot.cnd (fun _=>Tot.bind (t19 hc) ?_) fun h=>by simp at h) fun h=>?_
  ·rintro _ rfl
   exact Tot.ret rfl
  ·have hb:b=true:=by simpa using h
   subst hb
   obtain ⟨k1,k2,k3⟩:=h3 rfl
   have hne:l≠[]:=by rintro rfl;cases k2
   have hlp:1≤l.length:=by cases l;exact absurd rfl hne;simp
   have hm:=zFS (a:=(more.length:Int)) (n:=(l.length:Int)) (by omega) (by omega)
   refine Tot.grd (by simp;exact hne) (Tot.grd (by simp;omega) ?_)
   refine Tot.bind (P:=fun y=>y.1=false) ⟨_,not17 (fun _ c' hg=>?_),rfl⟩ ?_
   ·rw [List.drop_zero] at hg
    exact cls_less k2 (k:=(Int.tmod (more.length:Int) (l.length:Int)).toNat) (by omega) c' hg
   rintro ⟨y13,z0,z1,z2,z3,z4,z5,z6⟩ hy
   simp only at hy
   subst hy
   refine Tot.grd (by simp;omega) ?_
   refine Tot.bind (P:=fun y=>y.1=false) ⟨_,not17 (fun _ c' hg=>cls_plus k2 0 c' hg),rfl⟩ ?_
   rintro ⟨y19,z0,z1,z2,z3,z4,z5,z6⟩ hy
   simp only at hy
   subst hy
   refine Tot.bind (P:=fun y=>y=l) ⟨_,put20 _ hc,got_put k2 k1⟩ ?_
   rintro _ rfl
   exact Tot.cnd (fun _=>Tot.cnd (fun _=>Tot.ret rfl) fun h=>by cases h) fun h=>by simp at h
 obtain ⟨a,e,h⟩:=hgo
 rw [e,h]
end Go.Proofs.YtdpapeledldifaaGreat
end
section
namespace Go.Proofs.YtdpapeledldifaaGreat
theorem fnFileGet : Rows.FnFileGetSaid := fnFileGet_of true4
end Go.Proofs.YtdpapeledldifaaGreat
end
