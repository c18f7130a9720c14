/- Part 12 of the proof that the law FnCheck holds of every input; no condition. -/
import Derived.Test.YtdpapeledldifaaGreatX10
set_option autoImplicit true
set_option relaxedAutoImplicit true
set_option linter.all false
section
namespace Go.TM
open Go.AM
section
variable {R:Type} {T:Nat→TI} {C:zQN R} {C':zAr} {o:Oper} {s:TS} {K:TS→Option R} {K':St→Prop} {r:R}
theorem zBa {ob:Nat} {n:Nat} {cs cs':List V} (hg:getT s.ob ob=some (.box n cs)) (hl:cs'.length=cs.length):zAT (eS s) ob [eL cs] 0 (eL cs')=eS ⟨s.n,s.al,zAe s.ob ob cs'⟩:=by
 simp only [zAT,eS,zSU s.ob hg hl]
theorem zBL {ob:Nat} {n:Nat} {cs:List V} (hg:getT s.ob ob=some (.box n cs)):zAa (eS s).ob ob=some ⟨n,cs.length,[eL cs],true⟩:=by
 simp only [eS,zEE,hg,Option.map_some,eO]
theorem zBM {ob:Nat} {n:Nat} {g:GT} {d:Bool} {l:List g.Den} (hg:getT s.ob ob=some (.arr n g d l)):zAa (eS s).ob ob=some ⟨n,g.sz,l.map (encC d g),false⟩:=by
 simp only [eS,zEE,hg,Option.map_some,eO]
theorem zBG {ob:Nat} {n:Nat} {g:GT} {d:Bool} {l:List g.Den} {j:Nat} {cs:List V} (hg:getT s.ob ob=some (.opn n g d l j cs)):zAa (eS s).ob ob=some ⟨n,g.sz,(l.map (encC d g)).set j (eL cs),true⟩:=by
 simp only [eS,zEE,hg,Option.map_some,eO]
theorem zDa {g:GT} {d:Bool} {l:List g.Den} {j:Nat} {cs:List V} (h:j<l.length):((l.map (encC d g)).set j (eL cs))[j]? = some (eL cs):=by
 rw [List.getElem?_set_self (by simpa using h)]
theorem zBw {ob:Nat} {n:Nat} {g:GT} {d:Bool} {l:List g.Den} {j:Nat} {cs cs':List V} (hg:getT s.ob ob=some (.opn n g d l j cs)):zAT (eS s) ob ((l.map (encC d g)).set j (eL cs)) j (eL cs')=eS ⟨s.n,s.al,zAh s.ob ob cs'⟩:=by
 simp only [zAT,eS,zST s.ob hg]
theorem zPW {ob i off d n:Nat} {g0:GT} {d0:Bool} {l0:List g0.Den} {cs:List V} {g:GT} {dd:Bool} {l:List g.Den} {v:V} {K':St→Prop} (hg:getT s.ob ob=some (.opn n g0 d0 l0 i cs)) (hi:i<l0.length) (hv:lkV cs off=v) (hev:e v = .own g.sz (l.map (encC dd g)))
  (h:chkO (Nat.blt d 100000 && d != ob && ble (off+1) cs.length)
    (match getT (addT ⟨s.n,s.al,zAh s.ob ob (wrV cs off [.u])⟩ d (.arr d g dd l)).ob ob with
    | some (.opn _ _ _ l1 j1 cs1)=>chkO (ble (off+1) cs1.length) (grdO (decide (i=j1) && decide (j1<l1.length)) (K ⟨s.n,(addT ⟨s.n,s.al,zAh s.ob ob (wrV cs off [.u])⟩ d (.arr d g dd l)).al,
      zAh (addT ⟨s.n,s.al,zAh s.ob ob (wrV cs off [.u])⟩ d (.arr d g dd l)).ob ob (wrV cs1 off [.ar d])⟩))
    | _=>none)=some r) (hK:∀ s,K s=some r→K' (eS s)):zFh ob i off d K' (eS s):=by
 obtain ⟨h1,h2⟩:=zAD h
 simp only [Bool.and_eq_true] at h1
 have hoff:off+1≤cs.length:=zBV h1.2
 unfold zFh
 rw [zBG hg]
 simp only [zDa hi]
 rw [← zFt,hv,hev]
 simp only
 refine zAQ (by simp only [h1.1.1,h1.1.2,h1.2,zAN,Bool.and_self]) ?_
 have hw:wr (eL cs) off [SV.u]=eL (wrV cs off [.u]):=by rw [zCe];rfl
 rw [hw,zBw hg]
 have ha:=zGY (s:=⟨s.n,s.al,zAh s.ob ob (wrV cs off [.u])⟩) d (.arr d g dd l) rfl
 simp only [eO] at ha
 rw [ha]
 generalize hs1:addT ⟨s.n,s.al,zAh s.ob ob (wrV cs off [.u])⟩ d (.arr d g dd l)=s1 at h2
 split at h2
 ·rename_i n1 g1 d1 l1 j1 cs1 hg1
  obtain ⟨h3,h4⟩:=zAD h2
  obtain ⟨h5,h6⟩:=zAP h4
  simp only [Bool.and_eq_true,decide_eq_true_eq] at h5
  obtain ⟨h5,h7⟩:=h5
  subst h5
  rw [zBG hg1]
  simp only [zDa h7]
  refine zAQ (by simp only [zAN,h3,Bool.and_self]) ?_
  have hw1:wr (eL cs1) off [SV.ar d]=eL (wrV cs1 off [.ar d]):=by rw [zCe];rfl
  rw [hw1,zBw hg1]
  have hn:s1.n=s.n:=by rw [← hs1];rfl
  rw [hn]
  exact hK _ h6
 ·cases h2
theorem zRI {ob i off d:Nat} {K':St→Prop} (h:openN ob i off d K s=some r) (hK:∀ s,K s=some r→K' (eS s)):zFh ob i off d K' (eS s):=by
 unfold openN at h
 split at h
 ·rename_i n g0 d0 l0 j cs hg
  obtain ⟨h5,h6⟩:=zAP h
  clear h
  simp only [Bool.and_eq_true,decide_eq_true_eq] at h5
  obtain ⟨h5,h7⟩:=h5
  subst h5
  split at h6
  ·rename_i g dd l hv
   exact zPW hg h7 hv rfl h6 hK
  ·rename_i g hv
   exact zPW (l:=[]) (dd:=true) hg h7 hv rfl h6 hK
  ·rename_i hn1 hn2
   unfold zFh
   rw [zBG hg]
   simp only [zDa h7]
   rw [← zFt]
   rcases zIA (lkV cs off) with ⟨g,dd,l,hv⟩ | ⟨g,hv⟩ | hv
   ·exact absurd hv (hn1 _ _ _)
   ·exact absurd hv (hn2 _)
   ·split
    ·rename_i hq;exact absurd hq (hv _ _)
    ·exact hK _ h6
 ·cases h
theorem zGf {ob i d:Nat}:∀ (n j:Nat) {K:TS→Option R} {K':St→Prop} {s:TS},zUz ob i d n j K s=some r→(∀ s,K s=some r→K' (eS s))→zGg ob i d n j K' (eS s)
 | 0,j,K,K',s,h,hK=>hK _ h
 | n+1,j,K,K',s,h,hK=>zRI h fun s1 h1=>zGf n (j+1) h1 hK
theorem zPV {ob off d n:Nat} {cs:List V} {g:GT} {dd:Bool} {l:List g.Den} {v:V} {K':St→Prop} (hg:getT s.ob ob=some (.box n cs)) (hv:lkV cs off=v) (hev:e v = .own g.sz (l.map (encC dd g)))
  (h:chkO (Nat.blt d 100000 && d != ob && ble (off+1) cs.length)
    (match getT (addT ⟨s.n,s.al,zAe s.ob ob (wrV cs off [.u])⟩ d (.arr d g dd l)).ob ob with
    | some (.box _ cs1)=>chkO (ble (off+1) cs1.length) (K ⟨s.n,(addT ⟨s.n,s.al,zAe s.ob ob (wrV cs off [.u])⟩ d (.arr d g dd l)).al,
      zAe (addT ⟨s.n,s.al,zAe s.ob ob (wrV cs off [.u])⟩ d (.arr d g dd l)).ob ob (wrV cs1 off [.ar d])⟩)
    | _=>none)=some r) (hK:∀ s,K s=some r→K' (eS s)):zFh ob 0 off d K' (eS s):=by
 obtain ⟨h1,h2⟩:=zAD h
 simp only [Bool.and_eq_true] at h1
 have hoff:off+1≤cs.length:=zBV h1.2
 unfold zFh
 rw [zBL hg]
 simp only [List.getElem?_cons_zero]
 rw [← zFt,hv,hev]
 simp only
 refine zAQ (by simp only [h1.1.1,h1.1.2,h1.2,zAN,Bool.and_self]) ?_
 have hw:wr (eL cs) off [SV.u]=eL (wrV cs off [.u]):=by rw [zCe];rfl
 have hlen:(wrV cs off [V.u]).length=cs.length:=zCO _ _ _ (by simpa using hoff)
 rw [hw,zBa hg hlen]
 have ha:=zGY (s:=⟨s.n,s.al,zAe s.ob ob (wrV cs off [.u])⟩) d (.arr d g dd l) rfl
 simp only [eO] at ha
 rw [ha]
 generalize hs1:addT ⟨s.n,s.al,zAe s.ob ob (wrV cs off [.u])⟩ d (.arr d g dd l)=s1 at h2
 split at h2
 ·rename_i n1 cs1 hg1
  obtain ⟨h3,h4⟩:=zAD h2
  rw [zBL hg1]
  simp only [List.getElem?_cons_zero]
  refine zAQ (by simp only [zAN,h3,Bool.and_self]) ?_
  have hw1:wr (eL cs1) off [SV.ar d]=eL (wrV cs1 off [.ar d]):=by rw [zCe];rfl
  have hlen1:(wrV cs1 off [V.ar d]).length=cs1.length:=zCO _ _ _ (by simpa using zBV h3)
  rw [hw1,zBa hg1 hlen1]
  have hn:s1.n=s.n:=by rw [← hs1];rfl
  rw [hn]
  exact hK _ h4
 ·cases h2
theorem zRH {ob off d:Nat} {K':St→Prop} (h:openT ob off d K s=some r) (hK:∀ s,K s=some r→K' (eS s)):zFh ob 0 off d K' (eS s):=by
 unfold openT at h
 split at h
 ·rename_i n cs hg
  split at h
  ·rename_i g dd l hv
   exact zPV hg hv rfl h hK
  ·rename_i g hv
   exact zPV (l:=[]) (dd:=true) hg hv rfl h hK
  ·rename_i hn1 hn2
   unfold zFh
   rw [zBL hg]
   simp only [List.getElem?_cons_zero]
   rw [← zFt]
   rcases zIA (lkV cs off) with ⟨g,dd,l,hv⟩ | ⟨g,hv⟩ | hv
   ·exact absurd hv (hn1 _ _ _)
   ·exact absurd hv (hn2 _)
   ·split
    ·rename_i hq;exact absurd hq (hv _ _)
    ·exact hK _ h
 ·cases h
theorem zGe {ob d:Nat}:∀ (n j:Nat) {K:TS→Option R} {K':St→Prop} {s:TS},zUy ob d n j K s=some r→(∀ s,K s=some r→K' (eS s))→zGg ob 0 d n j K' (eS s)
 | 0,j,K,K',s,h,hK=>hK _ h
 | n+1,j,K,K',s,h,hK=>zRH h fun s1 h1=>zGe n (j+1) h1 hK
theorem zCy (off n:Nat) (l:List V):eL (zAZ off n l)=((eL l).drop off).take n:=by
 simp only [zAZ,zQC,List.map_take,List.map_drop]
theorem zIl (t:Nat) (cs:List V):AM.valOf T t (eL cs)=e (valV T t cs):=by
 unfold AM.valOf valV
 cases (T t).kind <;> first | rfl | exact (zFt cs 0).symm
theorem zPc {t ob off:Nat} {d:Option Tmp} (hK:∀ s,K s=some r→K' (eS s)) (h:zVM T t ob off d K s=some r):zPe T t ob 0 off d K' (eS s):=by
 unfold zVM at h
 split at h
 ·rename_i n cs hg
  obtain ⟨h1,h2⟩:=zAD h
  unfold zPe
  rw [zBL hg]
  simp only [List.getElem?_cons_zero]
  rw [← zCy,zIl,zBR,zAN]
  exact zAQ h1 (Kq hK (zAR _ _) h2)
 ·cases h
theorem zPd {t ob i off:Nat} {d:Option Tmp} (hK:∀ s,K s=some r→K' (eS s)) (h:zVN T t ob i off d K s=some r):zPe T t ob i off d K' (eS s):=by
 unfold zVN at h
 split at h
 ·rename_i n g0 d0 l0 j cs hg
  obtain ⟨h5,h6⟩:=zAP h
  simp only [Bool.and_eq_true,decide_eq_true_eq] at h5
  obtain ⟨h5,h7⟩:=h5
  subst h5
  obtain ⟨h1,h2⟩:=zAD h6
  unfold zPe
  rw [zBG hg]
  simp only [zDa h7]
  rw [← zCy,zIl,zBR,zAN]
  exact zAQ h1 (Kq hK (zAR _ _) h2)
 ·cases h
theorem zPJ:∀ (ks:List TK) (cs:List V),shVL T ks cs=true→zFb T ks (eL cs)
 | [],[],_=>rfl
 | [],_ :: _,h=>by cases h
 | k :: ks,[],h=>by cases h
 | k :: ks,c :: cs,h=>by
   simp only [shVL,Bool.and_eq_true] at h
   refine ⟨?_,zPJ ks cs h.2⟩
   have h1:=h.1
   cases k <;> cases c <;> simp only [e,eqK,decide_eq_true_eq,beq_iff_eq,Bool.false_eq_true] at h1 ⊢ <;> first | exact h1 | trivial
theorem zFc:∀ (ks:List TK) (cs:List V) (B:List SV→Prop),shVL T ks cs=true→(∀ row,B row)→zDk T ks B
 | [],[],B,_,hB=>hB _
 | [],_ :: _,B,h,_=>by cases h
 | k :: ks,[],B,h,_=>by cases h
 | k :: ks,c :: cs,B,h,hB=>by
   simp only [shVL,Bool.and_eq_true] at h
   have h1:=h.1
   cases k with
   | int k=>exact fun n=>zFc ks cs _ h.2 fun row=>hB _
   | bool=>exact fun n=>zFc ks cs _ h.2 fun row=>hB _
   | str=>exact fun n=>zFc ks cs _ h.2 fun row=>hB _
   | slice t=>exact fun n=>zFc ks cs _ h.2 fun row=>hB _
   | _=>simp at h1
theorem tload {t:TypeId} {x:Operand} (ho:o.op = .load t x) (hK:∀ s,K s=some r→K' (eS s)) (h:tstep T C o s K=some r):zAf T C' o (eS s) K':=by
 simp only [tstep,ho] at h
 simp only [zAf,ho]
 unfold loadT at h
 unfold zVL
 rw [zAn]
 split at h
 ·rename_i cs hv
  rw [hv]
  obtain ⟨h1,h2⟩:=zAD h
  simp only [e]
  rw [zAN]
  refine zAQ h1 (Kq hK ?_ h2)
  have:=zCy 0 (T t).size cs
  simp only [List.drop_zero] at this
  rw [← this,zIl,zAR]
 ·rename_i ob i off hv
  rw [hv]
  simp only [e]
  split at h
  ·rename_i n cs hg
   rw [zBL hg]
   simp only
   cases i with
   | succ i=>cases h
   | zero =>
     simp only at h
     refine zGe _ _ h fun s1 h1=>?_
     unfold loadXT at h1
     unfold zVK
     rw [zAn]
     split at h1
     ·rename_i ob1 i1 off1 hv1
      rw [hv1]
      cases i1 with
      | succ i=>cases h1
      | zero=>exact zPc hK h1
     ·cases h1
  ·rename_i n g dd l hg
   rw [zBM hg]
   simp only
   obtain ⟨h1,h2⟩:=zAD h
   simp only [Bool.and_eq_true,Bool.not_eq_true'] at h1
   obtain ⟨y,hy,h3⟩:=zGC h2
   obtain ⟨h4,h5⟩:=zAD h3
   simp only [Bool.and_eq_true,Bool.not_eq_true'] at h4
   have hrow:(l.map (encC dd g))[i]? = some (encC dd g y):=by rw [List.getElem?_map,hy];rfl
   have hlt:i<(l.map (encC dd g)).length:=zCS hrow
   unfold zVO
   split
   ·rename_i hk;rw [hk] at h1;cases h1.2
   ·refine zAQ h1.1 ⟨hlt,fun row hr=>?_⟩
    rw [hrow] at hr
    simp only [Option.some.injEq] at hr
    subst hr
    have hcs:eL (zAZ off (T t).size (cells dd g y))=((encC dd g y).drop off).take (T t).size:=by rw [zCy,zEu]
    refine ⟨⟨by rw [zEH];exact zBV h4.1.1,by rw [← hcs];exact zPJ _ _ h4.1.2⟩,zFc _ _ _ h4.1.2 fun row hrw=>?_⟩
    rw [← hcs] at hrw
    subst hrw
    rw [zIl,zBR]
    exact zAQ (by rw [h4.2];rfl) (Kq hK (zAR _ _) h5)
  ·rename_i n g0 d0 l0 j cs hg
   rw [zBG hg]
   simp only
   refine zGf _ _ h fun s1 h1=>?_
   unfold loadXN at h1
   unfold zVK
   rw [zAn]
   split at h1
   ·rename_i ob1 i1 off1 hv1
    rw [hv1]
    exact zPd hK h1
   ·cases h1
  ·cases h
 ·cases h
theorem zVT (hK:∀ s,K s=some r→K' (eS s)) {d:Option Tmp}:∀ s,kSkT d K s=some r→kSk d K' (eS s):=fun s h=>Kq hK (zAR d .sk) h
theorem zMi (d:Bool):∀ (ks:List TK) (vs:List V),nilL (eL vs) (eL (nrmV T d ks vs))
 | [],[]=>rfl
 | _ :: _,[]=>rfl
 | [],v :: vs=>⟨.inl rfl,zMi d [] vs⟩
 | k :: ks,v :: vs=>by
   simp only [nrmV,eL]
   refine ⟨?_,zMi d ks vs⟩
   split
   ·split
    ·cases d
     ·exact .inr ⟨rfl,_,.inr rfl⟩
     ·exact .inr ⟨rfl,_,.inl rfl⟩
    ·exact .inl rfl
   ·exact .inl rfl
theorem tstore {t:TypeId} {x y:Operand} (ho:o.op = .store t x y) (hK:∀ s,K s=some r→K' (eS s)) (h:tstep T C o s K=some r):zAf T C' o (eS s) K':=by
 simp only [tstep,ho] at h
 simp only [zAf,ho]
 unfold storeT at h
 unfold zSP
 rw [zAn,zAn]
 split at h
 ·rename_i ob i off hv
  rw [hv]
  simp only [e]
  rw [zCQ]
  split at h
  ·rename_i n cs hg
   rw [zBL hg]
   simp only
   cases i with
   | succ i=>cases h
   | zero =>
     simp only at h
     obtain ⟨h1,h2⟩:=zAD h
     simp only [Bool.and_eq_true] at h1
     simp only [List.getElem?_cons_zero]
     rw [zCf,zAN,zDY,zAN]
     refine zAQ (by simp only [h1.1.1.1,h1.1.1.2,h1.1.2,Bool.true_or,Bool.and_self]) (zAQ h1.2 ?_)
     rw [← zCe,zBa hg (zCO _ _ _ (by rw [eq_of_beq h1.1.1.2];exact zBV h1.2))]
     have hn:(zAv s y).n=s.n:=by
      unfold zAv
      split
      ·split <;> rfl
      ·rfl
     rw [hn]
     exact zVT hK _ h2
  ·rename_i n g dd l hg
   rw [zBM hg]
   simp only
   obtain ⟨h1,h2⟩:=zAD h
   simp only [Bool.and_eq_true] at h1
   rw [zCf,zAN,zDY,zMZ]
   refine zAQ (by simp only [h1.1.1.1.1,h1.1.1.1.2,h1.1.1.2,h1.1.2,Bool.or_true,Bool.and_self]) ?_
   obtain ⟨z,hz,h3⟩:=zGC h2
   obtain ⟨q,rest,h4,h5⟩:=zMW g _ _ h3
   have hrow:(l.map (encC dd g))[i]? = some (encC dd g z):=by rw [List.getElem?_map,hz];rfl
   refine ⟨zCS hrow,fun row hr=>?_⟩
   rw [hrow] at hr
   simp only [Option.some.injEq] at hr
   subst hr
   refine ⟨by rw [zEH];exact zBV h1.2,_,zMi (T:=T) dd (flat T 4 t) _,?_⟩
   cases rest with
   | cons a b=>cases h4
   | nil =>
     simp only [eL,List.append_nil,zCe,zEu] at h5
     rw [h5]
     have hset:(l.map (encC dd g)).set i (encC dd g q)=(l.set i q).map (encC dd g):=by rw [List.map_set]
     have hn:(zAv s y).n=s.n:=by
      unfold zAv
      split
      ·split <;> rfl
      ·rfl
     have hst:zAT (eS (zAv s y)) ob (l.map (encC dd g)) i (encC dd g q)=eS ⟨s.n,(zAv s y).al,zHk g dd (zAv s y).ob ob (l.set i q)⟩:=by
      simp only [zAT,hset,eS,zSV _ hg,hn]
     rw [hst]
     exact zVT hK _ h4
  ·rename_i n g0 d0 l0 j cs hg
   rw [zBG hg]
   simp only
   obtain ⟨h1,h6⟩:=zAD h
   obtain ⟨h5,h2⟩:=zAP h6
   simp only [Bool.and_eq_true,decide_eq_true_eq] at h5
   obtain ⟨h5,h7⟩:=h5
   subst h5
   simp only [Bool.and_eq_true] at h1
   simp only [zDa h7]
   rw [zCf,zAN,zDY,zAN]
   refine zAQ (by simp only [h1.1.1.1,h1.1.1.2,h1.1.2,Bool.true_or,Bool.and_self]) (zAQ h1.2 ?_)
   rw [← zCe,zBw hg]
   have hn:(zAv s y).n=s.n:=by
    unfold zAv
    split
    ·split <;> rfl
    ·rfl
   rw [hn]
   exact zVT hK _ h2
  ·cases h
 ·cases h
end
end Go.TM
end
