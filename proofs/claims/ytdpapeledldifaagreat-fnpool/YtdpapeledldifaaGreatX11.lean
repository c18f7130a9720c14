/- Part 12 of the proof that the law FnPool holds of every input; no condition. -/
import Derived.Test.YtdpapeledldifaaGreatX10
set_option autoImplicit true
set_option relaxedAutoImplicit true
set_option linter.all false
section
namespace Go.TM
open Go.AM
section
variable {R:Type} {T:Nat→TI} {C:TCall R} {C':CallP} {o:Oper} {s:TS} {K:TS→Option R} {K':St→Prop} {r:R}
theorem setCells_box {ob:Nat} {n:Nat} {cs cs':List V} (hg:getT s.ob ob=some (.box n cs)) (hl:cs'.length=cs.length):setCellsAt (eS s) ob [eL cs] 0 (eL cs')=eS ⟨s.n,s.al,setBoxT s.ob ob cs'⟩:=by
 simp only [setCellsAt,eS,setBox_e s.ob hg hl]
theorem getOb_box {ob:Nat} {n:Nat} {cs:List V} (hg:getT s.ob ob=some (.box n cs)):getOb (eS s).ob ob=some ⟨n,cs.length,[eL cs],true⟩:=by
 simp only [eS,getOb_e,hg,Option.map_some,eO]
theorem getOb_arr {ob:Nat} {n:Nat} {g:GT} {d:Bool} {l:List g.Den} (hg:getT s.ob ob=some (.arr n g d l)):getOb (eS s).ob ob=some ⟨n,g.sz,l.map (encC d g),false⟩:=by
 simp only [eS,getOb_e,hg,Option.map_some,eO]
theorem getOb_opn {ob:Nat} {n:Nat} {g:GT} {d:Bool} {l:List g.Den} {j:Nat} {cs:List V} (hg:getT s.ob ob=some (.opn n g d l j cs)):getOb (eS s).ob ob=some ⟨n,g.sz,(l.map (encC d g)).set j (eL cs),true⟩:=by
 simp only [eS,getOb_e,hg,Option.map_some,eO]
theorem row_opn {g:GT} {d:Bool} {l:List g.Den} {j:Nat} {cs:List V} (h:j<l.length):((l.map (encC d g)).set j (eL cs))[j]? = some (eL cs):=by
 rw [List.getElem?_set_self (by simpa using h)]
theorem setCells_opn {ob:Nat} {n:Nat} {g:GT} {d:Bool} {l:List g.Den} {j:Nat} {cs cs':List V} (hg:getT s.ob ob=some (.opn n g d l j cs)):setCellsAt (eS s) ob ((l.map (encC d g)).set j (eL cs)) j (eL cs')=eS ⟨s.n,s.al,setOpnT s.ob ob cs'⟩:=by
 simp only [setCellsAt,eS,setOpn_e s.ob hg]
theorem openN_own {ob i off d n:Nat} {g0:GT} {d0:Bool} {l0:List g0.Den} {cs:List V} {g:GT} {dd:Bool} {l:List g.Den} {v:V} {K':St→Prop} (hg:getT s.ob ob=some (.opn n g0 d0 l0 i cs)) (hi:i<l0.length) (hv:lkV cs off=v) (hev:e v = .own g.sz (l.map (encC dd g)))
  (h:chkO (Nat.blt d 100000 && d != ob && ble (off+1) cs.length)
    (match getT (addT ⟨s.n,s.al,setOpnT s.ob ob (wrV cs off [.u])⟩ d (.arr d g dd l)).ob ob with
    | some (.opn _ _ _ l1 j1 cs1)=>chkO (ble (off+1) cs1.length) (grdO (decide (i=j1) && decide (j1<l1.length)) (K ⟨s.n,(addT ⟨s.n,s.al,setOpnT s.ob ob (wrV cs off [.u])⟩ d (.arr d g dd l)).al,
      setOpnT (addT ⟨s.n,s.al,setOpnT s.ob ob (wrV cs off [.u])⟩ d (.arr d g dd l)).ob ob (wrV cs1 off [.ar d])⟩))
    | _=>none)=some r) (hK:∀ s,K s=some r→K' (eS s)):openC ob i off d K' (eS s):=by
 obtain ⟨h1,h2⟩:=chkO_some h
 simp only [Bool.and_eq_true] at h1
 have hoff:off+1≤cs.length:=ble_le h1.2
 unfold openC
 rw [getOb_opn hg]
 simp only [row_opn hi]
 rw [← e_lkV,hv,hev]
 simp only
 refine chk_mk (by simp only [h1.1.1,h1.1.2,h1.2,eL_length,Bool.and_self]) ?_
 have hw:wr (eL cs) off [SV.u]=eL (wrV cs off [.u]):=by rw [eL_wrV];rfl
 rw [hw,setCells_opn hg]
 have ha:=addOb_e (s:=⟨s.n,s.al,setOpnT s.ob ob (wrV cs off [.u])⟩) d (.arr d g dd l) rfl
 simp only [eO] at ha
 rw [ha]
 generalize hs1:addT ⟨s.n,s.al,setOpnT s.ob ob (wrV cs off [.u])⟩ d (.arr d g dd l)=s1 at h2
 split at h2
 ·rename_i n1 g1 d1 l1 j1 cs1 hg1
  obtain ⟨h3,h4⟩:=chkO_some h2
  obtain ⟨h5,h6⟩:=grdO_some h4
  simp only [Bool.and_eq_true,decide_eq_true_eq] at h5
  obtain ⟨h5,h7⟩:=h5
  subst h5
  rw [getOb_opn hg1]
  simp only [row_opn h7]
  refine chk_mk (by simp only [eL_length,h3,Bool.and_self]) ?_
  have hw1:wr (eL cs1) off [SV.ar d]=eL (wrV cs1 off [.ar d]):=by rw [eL_wrV];rfl
  rw [hw1,setCells_opn hg1]
  have hn:s1.n=s.n:=by rw [← hs1];rfl
  rw [hn]
  exact hK _ h6
 ·cases h2
theorem openN_sound {ob i off d:Nat} {K':St→Prop} (h:openN ob i off d K s=some r) (hK:∀ s,K s=some r→K' (eS s)):openC ob i off d K' (eS s):=by
 unfold openN at h
 split at h
 ·rename_i n g0 d0 l0 j cs hg
  obtain ⟨h5,h6⟩:=grdO_some h
  clear h
  simp only [Bool.and_eq_true,decide_eq_true_eq] at h5
  obtain ⟨h5,h7⟩:=h5
  subst h5
  split at h6
  ·rename_i g dd l hv
   exact openN_own hg h7 hv rfl h6 hK
  ·rename_i g hv
   exact openN_own (l:=[]) (dd:=true) hg h7 hv rfl h6 hK
  ·rename_i hn1 hn2
   unfold openC
   rw [getOb_opn hg]
   simp only [row_opn h7]
   rw [← e_lkV]
   rcases own_cases (lkV cs off) with ⟨g,dd,l,hv⟩ | ⟨g,hv⟩ | hv
   ·exact absurd hv (hn1 _ _ _)
   ·exact absurd hv (hn2 _)
   ·split
    ·rename_i hq;exact absurd hq (hv _ _)
    ·exact hK _ h6
 ·cases h
theorem opensN_sound {ob i d:Nat}:∀ (n j:Nat) {K:TS→Option R} {K':St→Prop} {s:TS},opensN ob i d n j K s=some r→(∀ s,K s=some r→K' (eS s))→opensC ob i d n j K' (eS s)
 | 0,j,K,K',s,h,hK=>hK _ h
 | n+1,j,K,K',s,h,hK=>openN_sound h fun s1 h1=>opensN_sound n (j+1) h1 hK
theorem openT_own {ob off d n:Nat} {cs:List V} {g:GT} {dd:Bool} {l:List g.Den} {v:V} {K':St→Prop} (hg:getT s.ob ob=some (.box n cs)) (hv:lkV cs off=v) (hev:e v = .own g.sz (l.map (encC dd g)))
  (h:chkO (Nat.blt d 100000 && d != ob && ble (off+1) cs.length)
    (match getT (addT ⟨s.n,s.al,setBoxT s.ob ob (wrV cs off [.u])⟩ d (.arr d g dd l)).ob ob with
    | some (.box _ cs1)=>chkO (ble (off+1) cs1.length) (K ⟨s.n,(addT ⟨s.n,s.al,setBoxT s.ob ob (wrV cs off [.u])⟩ d (.arr d g dd l)).al,
      setBoxT (addT ⟨s.n,s.al,setBoxT s.ob ob (wrV cs off [.u])⟩ d (.arr d g dd l)).ob ob (wrV cs1 off [.ar d])⟩)
    | _=>none)=some r) (hK:∀ s,K s=some r→K' (eS s)):openC ob 0 off d K' (eS s):=by
 obtain ⟨h1,h2⟩:=chkO_some h
 simp only [Bool.and_eq_true] at h1
 have hoff:off+1≤cs.length:=ble_le h1.2
 unfold openC
 rw [getOb_box hg]
 simp only [List.getElem?_cons_zero]
 rw [← e_lkV,hv,hev]
 simp only
 refine chk_mk (by simp only [h1.1.1,h1.1.2,h1.2,eL_length,Bool.and_self]) ?_
 have hw:wr (eL cs) off [SV.u]=eL (wrV cs off [.u]):=by rw [eL_wrV];rfl
 have hlen:(wrV cs off [V.u]).length=cs.length:=wrV_length _ _ _ (by simpa using hoff)
 rw [hw,setCells_box hg hlen]
 have ha:=addOb_e (s:=⟨s.n,s.al,setBoxT s.ob ob (wrV cs off [.u])⟩) d (.arr d g dd l) rfl
 simp only [eO] at ha
 rw [ha]
 generalize hs1:addT ⟨s.n,s.al,setBoxT s.ob ob (wrV cs off [.u])⟩ d (.arr d g dd l)=s1 at h2
 split at h2
 ·rename_i n1 cs1 hg1
  obtain ⟨h3,h4⟩:=chkO_some h2
  rw [getOb_box hg1]
  simp only [List.getElem?_cons_zero]
  refine chk_mk (by simp only [eL_length,h3,Bool.and_self]) ?_
  have hw1:wr (eL cs1) off [SV.ar d]=eL (wrV cs1 off [.ar d]):=by rw [eL_wrV];rfl
  have hlen1:(wrV cs1 off [V.ar d]).length=cs1.length:=wrV_length _ _ _ (by simpa using ble_le h3)
  rw [hw1,setCells_box hg1 hlen1]
  have hn:s1.n=s.n:=by rw [← hs1];rfl
  rw [hn]
  exact hK _ h4
 ·cases h2
theorem openT_sound {ob off d:Nat} {K':St→Prop} (h:openT ob off d K s=some r) (hK:∀ s,K s=some r→K' (eS s)):openC ob 0 off d K' (eS s):=by
 unfold openT at h
 split at h
 ·rename_i n cs hg
  split at h
  ·rename_i g dd l hv
   exact openT_own hg hv rfl h hK
  ·rename_i g hv
   exact openT_own (l:=[]) (dd:=true) hg hv rfl h hK
  ·rename_i hn1 hn2
   unfold openC
   rw [getOb_box hg]
   simp only [List.getElem?_cons_zero]
   rw [← e_lkV]
   rcases own_cases (lkV cs off) with ⟨g,dd,l,hv⟩ | ⟨g,hv⟩ | hv
   ·exact absurd hv (hn1 _ _ _)
   ·exact absurd hv (hn2 _)
   ·split
    ·rename_i hq;exact absurd hq (hv _ _)
    ·exact hK _ h
 ·cases h
theorem opensT_sound {ob d:Nat}:∀ (n j:Nat) {K:TS→Option R} {K':St→Prop} {s:TS},opensT ob d n j K s=some r→(∀ s,K s=some r→K' (eS s))→opensC ob 0 d n j K' (eS s)
 | 0,j,K,K',s,h,hK=>hK _ h
 | n+1,j,K,K',s,h,hK=>openT_sound h fun s1 h1=>opensT_sound n (j+1) h1 hK
theorem dropTake_e (off n:Nat) (l:List V):eL (dropTake off n l)=((eL l).drop off).take n:=by
 simp only [dropTake,eL_map,List.map_take,List.map_drop]
theorem valV_e (t:Nat) (cs:List V):AM.valOf T t (eL cs)=e (valV T t cs):=by
 unfold AM.valOf valV
 cases (T t).kind <;> first | rfl | exact (e_lkV cs 0).symm
theorem loadBT_sound {t ob off:Nat} {d:Option Tmp} (hK:∀ s,K s=some r→K' (eS s)) (h:loadBT T t ob off d K s=some r):loadB T t ob 0 off d K' (eS s):=by
 unfold loadBT at h
 split at h
 ·rename_i n cs hg
  obtain ⟨h1,h2⟩:=chkO_some h
  unfold loadB
  rw [getOb_box hg]
  simp only [List.getElem?_cons_zero]
  rw [← dropTake_e,valV_e,hasOwn_e,eL_length]
  exact chk_mk h1 (Kq hK (setD_e _ _) h2)
 ·cases h
theorem loadBN_sound {t ob i off:Nat} {d:Option Tmp} (hK:∀ s,K s=some r→K' (eS s)) (h:loadBN T t ob i off d K s=some r):loadB T t ob i off d K' (eS s):=by
 unfold loadBN at h
 split at h
 ·rename_i n g0 d0 l0 j cs hg
  obtain ⟨h5,h6⟩:=grdO_some h
  simp only [Bool.and_eq_true,decide_eq_true_eq] at h5
  obtain ⟨h5,h7⟩:=h5
  subst h5
  obtain ⟨h1,h2⟩:=chkO_some h6
  unfold loadB
  rw [getOb_opn hg]
  simp only [row_opn h7]
  rw [← dropTake_e,valV_e,hasOwn_e,eL_length]
  exact chk_mk h1 (Kq hK (setD_e _ _) h2)
 ·cases h
theorem shVL_spec : ∀ (ks : List TK) (cs : List V), shVL T ks cs = true → shapeL T ks (eL cs)
 | [], [], _ => rfl
 | [], _ :: _, h => by cases h
 | k :: ks, [], h => by cases h
 | k :: ks, c :: cs, h => by
  simp only [shVL, Bool.and_eq_true] at h
  refine ⟨?_, shVL_spec ks cs h.2⟩
  have h1 := h.1
  cases k <;> cases c <;> simp only [e, eqK, decide_eq_true_eq, beq_iff_eq, Bool.false_eq_true] at h1 ⊢ <;> first | exact h1 | trivial
theorem shVL_gen : ∀ (ks : List TK) (cs : List V) (B : List SV → Prop), shVL T ks cs = true → (∀ row, B row) → genRow T ks B
 | [], [], B, _, hB => hB _
 | [], _ :: _, B, h, _ => by cases h
 | k :: ks, [], B, h, _ => by cases h
 | k :: ks, c :: cs, B, h, hB => by
  simp only [shVL, Bool.and_eq_true] at h
  have h1 := h.1
  cases k with
  | int k => exact fun n => shVL_gen ks cs _ h.2 fun row => hB _
  | bool => exact fun n => shVL_gen ks cs _ h.2 fun row => hB _
  | str => exact fun n => shVL_gen ks cs _ h.2 fun row => hB _
  | slice t => exact fun n => shVL_gen ks cs _ h.2 fun row => hB _
  | _ => simp at h1
theorem tload {t : TypeId} {x : Operand} (ho : o.op = .load t x) (hK : ∀ s, K s = some r → K' (eS s)) (h : tstep T C o s K = some r) : stepK T C' o (eS s) K' := by
 simp only [tstep, ho] at h
 simp only [stepK, ho]
 unfold loadT at h
 unfold loadN
 rw [e_evT]
 split at h
 ·rename_i cs hv
  rw [hv]
  obtain ⟨h1, h2⟩ := chkO_some h
  simp only [e]
  rw [eL_length]
  refine chk_mk h1 (Kq hK ?_ h2)
  have := dropTake_e 0 (T t).size cs
  simp only [List.drop_zero] at this
  rw [← this, valV_e, setD_e]
 ·rename_i ob i off hv
  rw [hv]
  simp only [e]
  split at h
  ·rename_i n cs hg
   rw [getOb_box hg]
   simp only
   cases i with
   | succ i => cases h
   | zero =>
    simp only at h
    refine opensT_sound _ _ h fun s1 h1 => ?_
    unfold loadXT at h1
    unfold loadX
    rw [e_evT]
    split at h1
    ·rename_i ob1 i1 off1 hv1
     rw [hv1]
     cases i1 with
     | succ i => cases h1
     | zero => exact loadBT_sound hK h1
    ·cases h1
  ·rename_i n g dd l hg
   rw [getOb_arr hg]
   simp only
   obtain ⟨h1, h2⟩ := chkO_some h
   simp only [Bool.and_eq_true, Bool.not_eq_true'] at h1
   obtain ⟨y, hy, h3⟩ := atO_some h2
   obtain ⟨h4, h5⟩ := chkO_some h3
   simp only [Bool.and_eq_true, Bool.not_eq_true'] at h4
   have hrow : (l.map (encC dd g))[i]? = some (encC dd g y) := by rw [List.getElem?_map, hy]; rfl
   have hlt : i < (l.map (encC dd g)).length := lt_of_some hrow
   unfold loadA
   split
   ·rename_i hk; rw [hk] at h1; cases h1.2
   ·refine chk_mk h1.1 ⟨hlt, fun row hr => ?_⟩
    rw [hrow] at hr
    simp only [Option.some.injEq] at hr
    subst hr
    have hcs : eL (dropTake off (T t).size (cells dd g y)) = ((encC dd g y).drop off).take (T t).size := by rw [dropTake_e, eL_cells]
    refine ⟨⟨by rw [encC_length]; exact ble_le h4.1.1, by rw [← hcs]; exact shVL_spec _ _ h4.1.2⟩, shVL_gen _ _ _ h4.1.2 fun row hrw => ?_⟩
    rw [← hcs] at hrw
    subst hrw
    rw [valV_e, hasOwn_e]
    exact chk_mk (by rw [h4.2]; rfl) (Kq hK (setD_e _ _) h5)
  ·rename_i n g0 d0 l0 j cs hg
   rw [getOb_opn hg]
   simp only
   refine opensN_sound _ _ h fun s1 h1 => ?_
   unfold loadXN at h1
   unfold loadX
   rw [e_evT]
   split at h1
   ·rename_i ob1 i1 off1 hv1
    rw [hv1]
    exact loadBN_sound hK h1
   ·cases h1
  ·cases h
 ·cases h
theorem kSk_e (hK:∀ s,K s=some r→K' (eS s)) {d:Option Tmp}:∀ s,kSkT d K s=some r→kSk d K' (eS s):=fun s h=>Kq hK (setD_e d .sk) h
theorem nrmV_nil (d : Bool) : ∀ (ks : List TK) (vs : List V), nilL (eL vs) (eL (nrmV T d ks vs))
 | [], [] => rfl
 | _ :: _, [] => rfl
 | [], v :: vs => ⟨.inl rfl, nrmV_nil d [] vs⟩
 | k :: ks, v :: vs => by
  simp only [nrmV, eL]
  refine ⟨?_, nrmV_nil d ks vs⟩
  split
  ·split
   ·cases d
    ·exact .inr ⟨rfl, _, .inr rfl⟩
    ·exact .inr ⟨rfl, _, .inl rfl⟩
   ·exact .inl rfl
  ·exact .inl rfl
theorem tstore {t : TypeId} {x y : Operand} (ho : o.op = .store t x y) (hK : ∀ s, K s = some r → K' (eS s)) (h : tstep T C o s K = some r) : stepK T C' o (eS s) K' := by
 simp only [tstep, ho] at h
 simp only [stepK, ho]
 unfold storeT at h
 unfold storeN
 rw [e_evT, e_evT]
 split at h
 ·rename_i ob i off hv
  rw [hv]
  simp only [e]
  rw [strip_e]
  split at h
  ·rename_i n cs hg
   rw [getOb_box hg]
   simp only
   cases i with
   | succ i => cases h
   | zero =>
    simp only at h
    obtain ⟨h1, h2⟩ := chkO_some h
    simp only [Bool.and_eq_true] at h1
    simp only [List.getElem?_cons_zero]
    rw [cellsOf_e, eL_length, cells1_e, eL_length]
    refine chk_mk (by simp only [h1.1.1.1, h1.1.1.2, h1.1.2, Bool.true_or, Bool.and_self]) (chk_mk h1.2 ?_)
    rw [← eL_wrV, setCells_box hg (wrV_length _ _ _ (by rw [eq_of_beq h1.1.1.2]; exact ble_le h1.2))]
    have hn : (stripT s y).n = s.n := by
     unfold stripT
     split
     ·split <;> rfl
     ·rfl
    rw [hn]
    exact kSk_e hK _ h2
  ·rename_i n g dd l hg
   rw [getOb_arr hg]
   simp only
   obtain ⟨h1, h2⟩ := chkO_some h
   simp only [Bool.and_eq_true] at h1
   rw [cellsOf_e, eL_length, cells1_e, plainL_e]
   refine chk_mk (by simp only [h1.1.1.1.1, h1.1.1.1.2, h1.1.1.2, h1.1.2, Bool.or_true, Bool.and_self]) ?_
   obtain ⟨z, hz, h3⟩ := atO_some h2
   obtain ⟨q, rest, h4, h5⟩ := rdC_enc g _ _ h3
   have hrow : (l.map (encC dd g))[i]? = some (encC dd g z) := by rw [List.getElem?_map, hz]; rfl
   refine ⟨lt_of_some hrow, fun row hr => ?_⟩
   rw [hrow] at hr
   simp only [Option.some.injEq] at hr
   subst hr
   refine ⟨by rw [encC_length]; exact ble_le h1.2, _, nrmV_nil (T := T) dd (flat T 4 t) _, ?_⟩
   cases rest with
   | cons a b => cases h4
   | nil =>
    simp only [eL, List.append_nil, eL_wrV, eL_cells] at h5
    rw [h5]
    have hset : (l.map (encC dd g)).set i (encC dd g q) = (l.set i q).map (encC dd g) := by rw [List.map_set]
    have hn : (stripT s y).n = s.n := by
     unfold stripT
     split
     ·split <;> rfl
     ·rfl
    have hst : setCellsAt (eS (stripT s y)) ob (l.map (encC dd g)) i (encC dd g q) = eS ⟨s.n, (stripT s y).al, setArrT g dd (stripT s y).ob ob (l.set i q)⟩ := by
     simp only [setCellsAt, hset, eS, setArr_e _ hg, hn]
    rw [hst]
    exact kSk_e hK _ h4
  ·rename_i n g0 d0 l0 j cs hg
   rw [getOb_opn hg]
   simp only
   obtain ⟨h1, h6⟩ := chkO_some h
   obtain ⟨h5, h2⟩ := grdO_some h6
   simp only [Bool.and_eq_true, decide_eq_true_eq] at h5
   obtain ⟨h5, h7⟩ := h5
   subst h5
   simp only [Bool.and_eq_true] at h1
   simp only [row_opn h7]
   rw [cellsOf_e, eL_length, cells1_e, eL_length]
   refine chk_mk (by simp only [h1.1.1.1, h1.1.1.2, h1.1.2, Bool.true_or, Bool.and_self]) (chk_mk h1.2 ?_)
   rw [← eL_wrV, setCells_opn hg]
   have hn : (stripT s y).n = s.n := by
    unfold stripT
    split
    ·split <;> rfl
    ·rfl
   rw [hn]
   exact kSk_e hK _ h2
  ·cases h
 ·cases h
end
end Go.TM
end
