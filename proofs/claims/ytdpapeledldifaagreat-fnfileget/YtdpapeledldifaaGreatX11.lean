/- Part 12 of the proof that the law FnFileGet holds of every input; no condition. -/
import Derived.Test.YtdpapeledldifaaGreatX10
set_option autoImplicit true
set_option relaxedAutoImplicit true
set_option linter.all false
section
namespace Go.TM
open Go.AM
section
variable {R:Type} {T:Nat→TI} {C:zPM R} {C':zAm} {o:Oper} {s:TS} {K:TS→Option R} {K':St→Prop} {r:R}
theorem zBS {ob:Nat} {n:Nat} {cs cs':List V} (hg:getT s.ob ob=some (.box n cs)) (hl:cs'.length=cs.length):zAS (eS s) ob [eL cs] 0 (eL cs')=eS ⟨s.n,s.al,zAd s.ob ob cs'⟩:=by
 simp only [zAS,eS,zRA s.ob hg hl]
theorem zBF {ob:Nat} {n:Nat} {cs:List V} (hg:getT s.ob ob=some (.box n cs)):zAY (eS s).ob ob=some ⟨n,cs.length,[eL cs],true⟩:=by
 simp only [eS,zDs,hg,Option.map_some,eO]
theorem zBG {ob:Nat} {n:Nat} {g:GT} {d:Bool} {l:List g.Den} (hg:getT s.ob ob=some (.arr n g d l)):zAY (eS s).ob ob=some ⟨n,g.sz,l.map (encC d g),false⟩:=by
 simp only [eS,zDs,hg,Option.map_some,eO]
theorem zBA {ob:Nat} {n:Nat} {g:GT} {d:Bool} {l:List g.Den} {j:Nat} {cs:List V} (hg:getT s.ob ob=some (.opn n g d l j cs)):zAY (eS s).ob ob=some ⟨n,g.sz,(l.map (encC d g)).set j (eL cs),true⟩:=by
 simp only [eS,zDs,hg,Option.map_some,eO]
theorem zDO {g:GT} {d:Bool} {l:List g.Den} {j:Nat} {cs:List V} (h:j<l.length):((l.map (encC d g)).set j (eL cs))[j]? = some (eL cs):=by
 rw [List.getElem?_set_self (by simpa using h)]
theorem zBm {ob:Nat} {n:Nat} {g:GT} {d:Bool} {l:List g.Den} {j:Nat} {cs cs':List V} (hg:getT s.ob ob=some (.opn n g d l j cs)):zAS (eS s) ob ((l.map (encC d g)).set j (eL cs)) j (eL cs')=eS ⟨s.n,s.al,zAf s.ob ob cs'⟩:=by
 simp only [zAS,eS,zQz s.ob hg]
theorem zOT {ob i off d n:Nat} {g0:GT} {d0:Bool} {l0:List g0.Den} {cs:List V} {g:GT} {dd:Bool} {l:List g.Den} {v:V} {K':St→Prop} (hg:getT s.ob ob=some (.opn n g0 d0 l0 i cs)) (hi:i<l0.length) (hv:lkV cs off=v) (hev:e v = .own g.sz (l.map (encC dd g)))
  (h:chkO (Nat.blt d 100000 && d != ob && ble (off+1) cs.length)
    (match getT (addT ⟨s.n,s.al,zAf s.ob ob (wrV cs off [.u])⟩ d (.arr d g dd l)).ob ob with
    | some (.opn _ _ _ l1 j1 cs1)=>chkO (ble (off+1) cs1.length) (grdO (decide (i=j1) && decide (j1<l1.length)) (K ⟨s.n,(addT ⟨s.n,s.al,zAf s.ob ob (wrV cs off [.u])⟩ d (.arr d g dd l)).al,
      zAf (addT ⟨s.n,s.al,zAf s.ob ob (wrV cs off [.u])⟩ d (.arr d g dd l)).ob ob (wrV cs1 off [.ar d])⟩))
    | _=>none)=some r) (hK:∀ s,K s=some r→K' (eS s)):zFc ob i off d K' (eS s):=by
 obtain ⟨h1,h2⟩:=zAC h
 simp only [Bool.and_eq_true] at h1
 have hoff:off+1≤cs.length:=zBO h1.2
 unfold zFc
 rw [zBA hg]
 simp only [zDO hi]
 rw [← zFm,hv,hev]
 simp only
 refine zAP (by simp only [h1.1.1,h1.1.2,h1.2,zAM,Bool.and_self]) ?_
 have hw:wr (eL cs) off [SV.u]=eL (wrV cs off [.u]):=by rw [zCV];rfl
 rw [hw,zBm hg]
 have ha:=zGN (s:=⟨s.n,s.al,zAf s.ob ob (wrV cs off [.u])⟩) d (.arr d g dd l) rfl
 simp only [eO] at ha
 rw [ha]
 generalize hs1:addT ⟨s.n,s.al,zAf s.ob ob (wrV cs off [.u])⟩ d (.arr d g dd l)=s1 at h2
 split at h2
 ·rename_i n1 g1 d1 l1 j1 cs1 hg1
  obtain ⟨h3,h4⟩:=zAC h2
  obtain ⟨h5,h6⟩:=zAO h4
  simp only [Bool.and_eq_true,decide_eq_true_eq] at h5
  obtain ⟨h5,h7⟩:=h5
  subst h5
  rw [zBA hg1]
  simp only [zDO h7]
  refine zAP (by simp only [zAM,h3,Bool.and_self]) ?_
  have hw1:wr (eL cs1) off [SV.ar d]=eL (wrV cs1 off [.ar d]):=by rw [zCV];rfl
  rw [hw1,zBm hg1]
  have hn:s1.n=s.n:=by rw [← hs1];rfl
  rw [hn]
  exact hK _ h6
 ·cases h2
theorem zQD {ob i off d:Nat} {K':St→Prop} (h:openN ob i off d K s=some r) (hK:∀ s,K s=some r→K' (eS s)):zFc ob i off d K' (eS s):=by
 unfold openN at h
 split at h
 ·rename_i n g0 d0 l0 j cs hg
  obtain ⟨h5,h6⟩:=zAO h
  clear h
  simp only [Bool.and_eq_true,decide_eq_true_eq] at h5
  obtain ⟨h5,h7⟩:=h5
  subst h5
  split at h6
  ·rename_i g dd l hv
   exact zOT hg h7 hv rfl h6 hK
  ·rename_i g hv
   exact zOT (l:=[]) (dd:=true) hg h7 hv rfl h6 hK
  ·rename_i hn1 hn2
   unfold zFc
   rw [zBA hg]
   simp only [zDO h7]
   rw [← zFm]
   rcases zHg (lkV cs off) with ⟨g,dd,l,hv⟩ | ⟨g,hv⟩ | hv
   ·exact absurd hv (hn1 _ _ _)
   ·exact absurd hv (hn2 _)
   ·split
    ·rename_i hq;exact absurd hq (hv _ _)
    ·exact hK _ h6
 ·cases h
theorem zGV {ob i d:Nat}:∀ (n j:Nat) {K:TS→Option R} {K':St→Prop} {s:TS},zTU ob i d n j K s=some r→(∀ s,K s=some r→K' (eS s))→zGW ob i d n j K' (eS s)
 | 0,j,K,K',s,h,hK=>hK _ h
 | n+1,j,K,K',s,h,hK=>zQD h fun s1 h1=>zGV n (j+1) h1 hK
theorem zOS {ob off d n:Nat} {cs:List V} {g:GT} {dd:Bool} {l:List g.Den} {v:V} {K':St→Prop} (hg:getT s.ob ob=some (.box n cs)) (hv:lkV cs off=v) (hev:e v = .own g.sz (l.map (encC dd g)))
  (h:chkO (Nat.blt d 100000 && d != ob && ble (off+1) cs.length)
    (match getT (addT ⟨s.n,s.al,zAd s.ob ob (wrV cs off [.u])⟩ d (.arr d g dd l)).ob ob with
    | some (.box _ cs1)=>chkO (ble (off+1) cs1.length) (K ⟨s.n,(addT ⟨s.n,s.al,zAd s.ob ob (wrV cs off [.u])⟩ d (.arr d g dd l)).al,
      zAd (addT ⟨s.n,s.al,zAd s.ob ob (wrV cs off [.u])⟩ d (.arr d g dd l)).ob ob (wrV cs1 off [.ar d])⟩)
    | _=>none)=some r) (hK:∀ s,K s=some r→K' (eS s)):zFc ob 0 off d K' (eS s):=by
 obtain ⟨h1,h2⟩:=zAC h
 simp only [Bool.and_eq_true] at h1
 have hoff:off+1≤cs.length:=zBO h1.2
 unfold zFc
 rw [zBF hg]
 simp only [List.getElem?_cons_zero]
 rw [← zFm,hv,hev]
 simp only
 refine zAP (by simp only [h1.1.1,h1.1.2,h1.2,zAM,Bool.and_self]) ?_
 have hw:wr (eL cs) off [SV.u]=eL (wrV cs off [.u]):=by rw [zCV];rfl
 have hlen:(wrV cs off [V.u]).length=cs.length:=zCD _ _ _ (by simpa using hoff)
 rw [hw,zBS hg hlen]
 have ha:=zGN (s:=⟨s.n,s.al,zAd s.ob ob (wrV cs off [.u])⟩) d (.arr d g dd l) rfl
 simp only [eO] at ha
 rw [ha]
 generalize hs1:addT ⟨s.n,s.al,zAd s.ob ob (wrV cs off [.u])⟩ d (.arr d g dd l)=s1 at h2
 split at h2
 ·rename_i n1 cs1 hg1
  obtain ⟨h3,h4⟩:=zAC h2
  rw [zBF hg1]
  simp only [List.getElem?_cons_zero]
  refine zAP (by simp only [zAM,h3,Bool.and_self]) ?_
  have hw1:wr (eL cs1) off [SV.ar d]=eL (wrV cs1 off [.ar d]):=by rw [zCV];rfl
  have hlen1:(wrV cs1 off [V.ar d]).length=cs1.length:=zCD _ _ _ (by simpa using zBO h3)
  rw [hw1,zBS hg1 hlen1]
  have hn:s1.n=s.n:=by rw [← hs1];rfl
  rw [hn]
  exact hK _ h4
 ·cases h2
theorem zQC {ob off d:Nat} {K':St→Prop} (h:openT ob off d K s=some r) (hK:∀ s,K s=some r→K' (eS s)):zFc ob 0 off d K' (eS s):=by
 unfold openT at h
 split at h
 ·rename_i n cs hg
  split at h
  ·rename_i g dd l hv
   exact zOS hg hv rfl h hK
  ·rename_i g hv
   exact zOS (l:=[]) (dd:=true) hg hv rfl h hK
  ·rename_i hn1 hn2
   unfold zFc
   rw [zBF hg]
   simp only [List.getElem?_cons_zero]
   rw [← zFm]
   rcases zHg (lkV cs off) with ⟨g,dd,l,hv⟩ | ⟨g,hv⟩ | hv
   ·exact absurd hv (hn1 _ _ _)
   ·exact absurd hv (hn2 _)
   ·split
    ·rename_i hq;exact absurd hq (hv _ _)
    ·exact hK _ h
 ·cases h
theorem zGU {ob d:Nat}:∀ (n j:Nat) {K:TS→Option R} {K':St→Prop} {s:TS},zTT ob d n j K s=some r→(∀ s,K s=some r→K' (eS s))→zGW ob 0 d n j K' (eS s)
 | 0,j,K,K',s,h,hK=>hK _ h
 | n+1,j,K,K',s,h,hK=>zQC h fun s1 h1=>zGU n (j+1) h1 hK
theorem zCl (off n:Nat) (l:List V):eL (zAX off n l)=((eL l).drop off).take n:=by
 simp only [zAX,zPB,List.map_take,List.map_drop]
theorem zIU (t:Nat) (cs:List V):AM.valOf T t (eL cs)=e (valV T t cs):=by
 unfold AM.valOf valV
 cases (T t).kind <;> first | rfl | exact (zFm cs 0).symm
theorem zOZ {t ob off:Nat} {d:Option Tmp} (hK:∀ s,K s=some r→K' (eS s)) (h:zTg T t ob off d K s=some r):zOb T t ob 0 off d K' (eS s):=by
 unfold zTg at h
 split at h
 ·rename_i n cs hg
  obtain ⟨h1,h2⟩:=zAC h
  unfold zOb
  rw [zBF hg]
  simp only [List.getElem?_cons_zero]
  rw [← zCl,zIU,zBL,zAM]
  exact zAP h1 (Kq hK (zAR _ _) h2)
 ·cases h
theorem zOa {t ob i off:Nat} {d:Option Tmp} (hK:∀ s,K s=some r→K' (eS s)) (h:zTh T t ob i off d K s=some r):zOb T t ob i off d K' (eS s):=by
 unfold zTh at h
 split at h
 ·rename_i n g0 d0 l0 j cs hg
  obtain ⟨h5,h6⟩:=zAO h
  simp only [Bool.and_eq_true,decide_eq_true_eq] at h5
  obtain ⟨h5,h7⟩:=h5
  subst h5
  obtain ⟨h1,h2⟩:=zAC h6
  unfold zOb
  rw [zBA hg]
  simp only [zDO h7]
  rw [← zCl,zIU,zBL,zAM]
  exact zAP h1 (Kq hK (zAR _ _) h2)
 ·cases h
theorem zOG:∀ (ks:List TK) (cs:List V),shVL T ks cs=true→zFW T ks (eL cs)
 | [],[],_=>rfl
 | [],_ :: _,h=>by cases h
 | k :: ks,[],h=>by cases h
 | k :: ks,c :: cs,h=>by
   simp only [shVL,Bool.and_eq_true] at h
   refine ⟨?_,zOG ks cs h.2⟩
   have h1:=h.1
   cases k <;> cases c <;> simp only [e,eqK,decide_eq_true_eq,beq_iff_eq,Bool.false_eq_true] at h1 ⊢ <;> first | exact h1 | trivial
theorem zFX:∀ (ks:List TK) (cs:List V) (B:List SV→Prop),shVL T ks cs=true→(∀ row,B row)→zDY T ks B
 | [],[],B,_,hB=>hB _
 | [],_ :: _,B,h,_=>by cases h
 | k :: ks,[],B,h,_=>by cases h
 | k :: ks,c :: cs,B,h,hB=>by
   simp only [shVL,Bool.and_eq_true] at h
   have h1:=h.1
   cases k with
   | int k=>exact fun n=>zFX ks cs _ h.2 fun row=>hB _
   | bool=>exact fun n=>zFX ks cs _ h.2 fun row=>hB _
   | str=>exact fun n=>zFX ks cs _ h.2 fun row=>hB _
   | slice t=>exact fun n=>zFX ks cs _ h.2 fun row=>hB _
   | _=>simp at h1
theorem tload {t:TypeId} {x:Operand} (ho:o.op = .load t x) (hK:∀ s,K s=some r→K' (eS s)) (h:tstep T C o s K=some r):zAe T C' o (eS s) K':=by
 simp only [tstep,ho] at h
 simp only [zAe,ho]
 unfold loadT at h
 unfold zTf
 rw [zAj]
 split at h
 ·rename_i cs hv
  rw [hv]
  obtain ⟨h1,h2⟩:=zAC h
  simp only [e]
  rw [zAM]
  refine zAP h1 (Kq hK ?_ h2)
  have:=zCl 0 (T t).size cs
  simp only [List.drop_zero] at this
  rw [← this,zIU,zAR]
 ·rename_i ob i off hv
  rw [hv]
  simp only [e]
  split at h
  ·rename_i n cs hg
   rw [zBF hg]
   simp only
   cases i with
   | succ i=>cases h
   | zero =>
     simp only at h
     refine zGU _ _ h fun s1 h1=>?_
     unfold loadXT at h1
     unfold zTe
     rw [zAj]
     split at h1
     ·rename_i ob1 i1 off1 hv1
      rw [hv1]
      cases i1 with
      | succ i=>cases h1
      | zero=>exact zOZ hK h1
     ·cases h1
  ·rename_i n g dd l hg
   rw [zBG hg]
   simp only
   obtain ⟨h1,h2⟩:=zAC h
   simp only [Bool.and_eq_true,Bool.not_eq_true'] at h1
   obtain ⟨y,hy,h3⟩:=zFu h2
   obtain ⟨h4,h5⟩:=zAC h3
   simp only [Bool.and_eq_true,Bool.not_eq_true'] at h4
   have hrow:(l.map (encC dd g))[i]? = some (encC dd g y):=by rw [List.getElem?_map,hy];rfl
   have hlt:i<(l.map (encC dd g)).length:=zCH hrow
   unfold zTi
   split
   ·rename_i hk;rw [hk] at h1;cases h1.2
   ·refine zAP h1.1 ⟨hlt,fun row hr=>?_⟩
    rw [hrow] at hr
    simp only [Option.some.injEq] at hr
    subst hr
    have hcs:eL (zAX off (T t).size (cells dd g y))=((encC dd g y).drop off).take (T t).size:=by rw [zCl,zEo]
    refine ⟨⟨by rw [zDv];exact zBO h4.1.1,by rw [← hcs];exact zOG _ _ h4.1.2⟩,zFX _ _ _ h4.1.2 fun row hrw=>?_⟩
    rw [← hcs] at hrw
    subst hrw
    rw [zIU,zBL]
    exact zAP (by rw [h4.2];rfl) (Kq hK (zAR _ _) h5)
  ·rename_i n g0 d0 l0 j cs hg
   rw [zBA hg]
   simp only
   refine zGV _ _ h fun s1 h1=>?_
   unfold loadXN at h1
   unfold zTe
   rw [zAj]
   split at h1
   ·rename_i ob1 i1 off1 hv1
    rw [hv1]
    exact zOa hK h1
   ·cases h1
  ·cases h
 ·cases h
theorem zTo (hK:∀ s,K s=some r→K' (eS s)) {d:Option Tmp}:∀ s,kSkT d K s=some r→kSk d K' (eS s):=fun s h=>Kq hK (zAR d .sk) h
theorem zMG (d:Bool):∀ (ks:List TK) (vs:List V),nilL (eL vs) (eL (nrmV T d ks vs))
 | [],[]=>rfl
 | _ :: _,[]=>rfl
 | [],v :: vs=>⟨.inl rfl,zMG d [] vs⟩
 | k :: ks,v :: vs=>by
   simp only [nrmV,eL]
   refine ⟨?_,zMG d ks vs⟩
   split
   ·split
    ·cases d
     ·exact .inr ⟨rfl,_,.inr rfl⟩
     ·exact .inr ⟨rfl,_,.inl rfl⟩
    ·exact .inl rfl
   ·exact .inl rfl
theorem tstore {t:TypeId} {x y:Operand} (ho:o.op = .store t x y) (hK:∀ s,K s=some r→K' (eS s)) (h:tstep T C o s K=some r):zAe T C' o (eS s) K':=by
 simp only [tstep,ho] at h
 simp only [zAe,ho]
 unfold storeT at h
 unfold zQw
 rw [zAj,zAj]
 split at h
 ·rename_i ob i off hv
  rw [hv]
  simp only [e]
  rw [zCF]
  split at h
  ·rename_i n cs hg
   rw [zBF hg]
   simp only
   cases i with
   | succ i=>cases h
   | zero =>
     simp only at h
     obtain ⟨h1,h2⟩:=zAC h
     simp only [Bool.and_eq_true] at h1
     simp only [List.getElem?_cons_zero]
     rw [zCW,zAM,zDM,zAM]
     refine zAP (by simp only [h1.1.1.1,h1.1.1.2,h1.1.2,Bool.true_or,Bool.and_self]) (zAP h1.2 ?_)
     rw [← zCV,zBS hg (zCD _ _ _ (by rw [eq_of_beq h1.1.1.2];exact zBO h1.2))]
     have hn:(zAo s y).n=s.n:=by
      unfold zAo
      split
      ·split <;> rfl
      ·rfl
     rw [hn]
     exact zTo hK _ h2
  ·rename_i n g dd l hg
   rw [zBG hg]
   simp only
   obtain ⟨h1,h2⟩:=zAC h
   simp only [Bool.and_eq_true] at h1
   rw [zCW,zAM,zDM,zMA]
   refine zAP (by simp only [h1.1.1.1.1,h1.1.1.1.2,h1.1.1.2,h1.1.2,Bool.or_true,Bool.and_self]) ?_
   obtain ⟨z,hz,h3⟩:=zFu h2
   obtain ⟨q,rest,h4,h5⟩:=zLx g _ _ h3
   have hrow:(l.map (encC dd g))[i]? = some (encC dd g z):=by rw [List.getElem?_map,hz];rfl
   refine ⟨zCH hrow,fun row hr=>?_⟩
   rw [hrow] at hr
   simp only [Option.some.injEq] at hr
   subst hr
   refine ⟨by rw [zDv];exact zBO h1.2,_,zMG (T:=T) dd (flat T 4 t) _,?_⟩
   cases rest with
   | cons a b=>cases h4
   | nil =>
     simp only [eL,List.append_nil,zCV,zEo] at h5
     rw [h5]
     have hset:(l.map (encC dd g)).set i (encC dd g q)=(l.set i q).map (encC dd g):=by rw [List.map_set]
     have hn:(zAo s y).n=s.n:=by
      unfold zAo
      split
      ·split <;> rfl
      ·rfl
     have hst:zAS (eS (zAo s y)) ob (l.map (encC dd g)) i (encC dd g q)=eS ⟨s.n,(zAo s y).al,zHR g dd (zAo s y).ob ob (l.set i q)⟩:=by
      simp only [zAS,hset,eS,zRB _ hg,hn]
     rw [hst]
     exact zTo hK _ h4
  ·rename_i n g0 d0 l0 j cs hg
   rw [zBA hg]
   simp only
   obtain ⟨h1,h6⟩:=zAC h
   obtain ⟨h5,h2⟩:=zAO h6
   simp only [Bool.and_eq_true,decide_eq_true_eq] at h5
   obtain ⟨h5,h7⟩:=h5
   subst h5
   simp only [Bool.and_eq_true] at h1
   simp only [zDO h7]
   rw [zCW,zAM,zDM,zAM]
   refine zAP (by simp only [h1.1.1.1,h1.1.1.2,h1.1.2,Bool.true_or,Bool.and_self]) (zAP h1.2 ?_)
   rw [← zCV,zBm hg]
   have hn:(zAo s y).n=s.n:=by
    unfold zAo
    split
    ·split <;> rfl
    ·rfl
   rw [hn]
   exact zTo hK _ h2
  ·cases h
 ·cases h
end
end Go.TM
end
