/- Part 12 of the proof that the law FnExactFrameLess holds of every input; no condition. -/
import Derived.Test.YtdpapeledldifaaGreatX10
set_option autoImplicit true
set_option relaxedAutoImplicit true
set_option linter.all false
section
namespace Go.TM
open Go.AM
section
variable {R:Type}{T:Nat→TI}{C:zQN R}{C':zAv}{o:Oper}{s:TS}{K:TS→Option R}{K':St→Prop}{r:R}
theorem zBf {ob:Nat}{n:Nat}{cs cs':List V}(hg:getT s.ob ob=some (.box n cs))(hl:cs'.length=cs.length):zAV (eS s) ob [eL cs] 0 (eL cs')=eS ⟨s.n,s.al,zAi s.ob ob cs'⟩:=by
 simp only[zAV,eS,zRs s.ob hg hl]
theorem zBQ {ob:Nat}{n:Nat}{cs:List V}(hg:getT s.ob ob=some (.box n cs)):zAc (eS s).ob ob=some ⟨n,cs.length,[eL cs],true⟩:=by
 simp only[eS,zDR,hg,Option.map_some,eO]
theorem zBR {ob:Nat}{n:Nat}{g:GT}{d:Bool}{l:List g.Den}(hg:getT s.ob ob=some (.arr n g d l)):zAc (eS s).ob ob=some ⟨n,g.sz,l.map (encC d g),false⟩:=by
 simp only[eS,zDR,hg,Option.map_some,eO]
theorem zGF {ob:Nat}{n:Nat}{g:GT}{l:List g.Den}{k:Nat}(hg:getT s.ob ob=some (.spl n g l k)):zAc (eS s).ob ob=some ⟨n,g.sz,encM .spl g k l,false⟩:=by
 simp only[eS,zDR,hg,Option.map_some,eO]
theorem zBH {ob:Nat}{n:Nat}{g:GT}{d:DM}{l:List g.Den}{j:Nat}{cs:List V}(hg:getT s.ob ob=some (.opn n g d l j cs)):zAc (eS s).ob ob=some ⟨n,g.sz,(encM d g j l).set j (eL cs),true⟩:=by
 simp only[eS,zDR,hg,Option.map_some,eO]
theorem zDn {g:GT}{d:DM}{l:List g.Den}{j:Nat}{cs:List V}(h:j<l.length):((encM d g j l).set j (eL cs))[j]? = some (eL cs):=by
 rw[List.getElem?_set_self (by rw[zDU];exact h)]
theorem zCC {ob:Nat}{n:Nat}{g:GT}{d:DM}{l:List g.Den}{j:Nat}{cs cs':List V}(hg:getT s.ob ob=some (.opn n g d l j cs)):zAV (eS s) ob ((encM d g j l).set j (eL cs)) j (eL cs')=eS ⟨s.n,s.al,zAl s.ob ob cs'⟩:=by
 simp only[zAV,eS,zRr s.ob hg]
theorem zSV {g:GT}{l:List g.Den}{k i:Nat}{y:g.Den}(h:k≤i)(e:l[i]? = some y):(encM .spl g k l)[i]? = some (encC false g y):=by
 have hi:=(List.getElem?_eq_some_iff.1 e).1
 simp only[encM]
 rw[List.getElem?_append_right (by simp only[List.length_map,List.length_take];omega),List.getElem?_map,List.getElem?_drop]
 have:k+(i-((l.take k).map (encC true g)).length)=i:=by simp only[List.length_map,List.length_take];omega
 rw[this,e];rfl
theorem zPX {ob i off d n:Nat}{g0:GT}{d0:DM}{l0:List g0.Den}{cs:List V}{g:GT}{dd:Bool}{l:List g.Den}{v:V}{K':St→Prop}(hg:getT s.ob ob=some (.opn n g0 d0 l0 i cs))(hi:i<l0.length)(hv:lkV cs off=v)(hev:e v = .own g.sz (l.map (encC dd g)))
  (h:chkO (Nat.blt d 100000&&d != ob&&ble (off+1) cs.length)
    (match getT (addT ⟨s.n,s.al,zAl s.ob ob (wrV cs off [.u])⟩ d (.arr d g dd l)).ob ob with
    |some (.opn _ _ _ l1 j1 cs1)=>chkO (ble (off+1) cs1.length) (grdO (decide (i=j1)&&decide (j1<l1.length)) (K ⟨s.n,(addT ⟨s.n,s.al,zAl s.ob ob (wrV cs off [.u])⟩ d (.arr d g dd l)).al,
      zAl (addT ⟨s.n,s.al,zAl s.ob ob (wrV cs off [.u])⟩ d (.arr d g dd l)).ob ob (wrV cs1 off [.ar d])⟩))
    |_=>none)=some r) (hK:∀s,K s=some r→K' (eS s)):zFy ob i off d K' (eS s):=by
 obtain⟨h1,h2⟩:=zAF h
 simp only[Bool.and_eq_true]at h1
 have hoff:off+1≤cs.length:=zBU h1.2
 unfold zFy
 rw[zBH hg]
 simp only[zDn hi]
 rw[←zGJ,hv,hev]
 simp only
 refine zAR (by simp only[h1.1.1,h1.1.2,h1.2,zAO,Bool.and_self]) ?_
 have hw:wr (eL cs) off [SV.u]=eL (wrV cs off [.u]):=by rw[zCn];rfl
 rw[hw,zCC hg]
 have ha:=zGo (s:=⟨s.n,s.al,zAl s.ob ob (wrV cs off [.u])⟩) d (.arr d g dd l) rfl
 simp only[eO]at ha
 rw[ha]
 generalize hs1:addT ⟨s.n,s.al,zAl s.ob ob (wrV cs off [.u])⟩ d (.arr d g dd l)=s1 at h2
 split at h2
 ·rename_i n1 g1 d1 l1 j1 cs1 hg1
  obtain⟨h3,h4⟩:=zAF h2
  obtain⟨h5,h6⟩:=zAQ h4
  simp only[Bool.and_eq_true,decide_eq_true_eq]at h5
  obtain⟨h5,h7⟩:=h5
  subst h5
  rw[zBH hg1]
  simp only[zDn h7]
  refine zAR (by simp only[zAO,h3,Bool.and_self]) ?_
  have hw1:wr (eL cs1) off [SV.ar d]=eL (wrV cs1 off [.ar d]):=by rw[zCn];rfl
  rw[hw1,zCC hg1]
  have hn:s1.n=s.n:=by rw[←hs1];rfl
  rw[hn]
  exact hK _ h6
 ·cases h2
theorem zIS {ob i off d:Nat}{K':St→Prop}(h:openN ob i off d K s=some r)(hK:∀ s,K s=some r→K' (eS s)):zFy ob i off d K' (eS s):=by
 unfold openN at h
 split at h
 ·rename_i n g0 d0 l0 j cs hg
  obtain⟨h5,h6⟩:=zAQ h
  clear h
  simp only[Bool.and_eq_true,decide_eq_true_eq]at h5
  obtain⟨h5,h7⟩:=h5
  subst h5
  split at h6
  ·rename_i g dd l hv
   exact zPX hg h7 hv rfl h6 hK
  ·rename_i g hv
   exact zPX (l:=[]) (dd:=true) hg h7 hv rfl h6 hK
  ·rename_i hn1 hn2
   unfold zFy
   rw[zBH hg]
   simp only[zDn h7]
   rw[←zGJ]
   rcases zIP (lkV cs off)with⟨g,dd,l,hv⟩|⟨g,hv⟩|hv
   ·exact absurd hv (hn1 _ _ _)
   ·exact absurd hv (hn2 _)
   ·split
    ·rename_i hq;exact absurd hq (hv _ _)
    ·exact hK _ h6
 ·cases h
theorem zGv {ob i d:Nat}:∀(n j:Nat) {K:TS→Option R} {K':St→Prop} {s:TS},zUF ob i d n j K s=some r→(∀s,K s=some r→K' (eS s))→zGw ob i d n j K' (eS s)
 |0,j,K,K',s,h,hK=>hK _ h
 |n+1,j,K,K',s,h,hK=>zIS h fun s1 h1=>zGv n (j+1) h1 hK
theorem zPW {ob off d n:Nat}{cs:List V}{g:GT}{dd:Bool}{l:List g.Den}{v:V}{K':St→Prop}(hg:getT s.ob ob=some (.box n cs))(hv:lkV cs off=v)(hev:e v = .own g.sz (l.map (encC dd g)))
  (h:chkO (Nat.blt d 100000&&d != ob&&ble (off+1) cs.length)
    (match getT (addT ⟨s.n,s.al,zAi s.ob ob (wrV cs off [.u])⟩ d (.arr d g dd l)).ob ob with
    |some (.box _ cs1)=>chkO (ble (off+1) cs1.length) (K ⟨s.n,(addT ⟨s.n,s.al,zAi s.ob ob (wrV cs off [.u])⟩ d (.arr d g dd l)).al,
      zAi (addT ⟨s.n,s.al,zAi s.ob ob (wrV cs off [.u])⟩ d (.arr d g dd l)).ob ob (wrV cs1 off [.ar d])⟩)
    |_=>none)=some r) (hK:∀s,K s=some r→K' (eS s)):zFy ob 0 off d K' (eS s):=by
 obtain⟨h1,h2⟩:=zAF h
 simp only[Bool.and_eq_true]at h1
 have hoff:off+1≤cs.length:=zBU h1.2
 unfold zFy
 rw[zBQ hg]
 simp only[List.getElem?_cons_zero]
 rw[←zGJ,hv,hev]
 simp only
 refine zAR (by simp only[h1.1.1,h1.1.2,h1.2,zAO,Bool.and_self]) ?_
 have hw:wr (eL cs) off [SV.u]=eL (wrV cs off [.u]):=by rw[zCn];rfl
 have hlen:(wrV cs off [V.u]).length=cs.length:=zCW _ _ _ (by simpa using hoff)
 rw[hw,zBf hg hlen]
 have ha:=zGo (s:=⟨s.n,s.al,zAi s.ob ob (wrV cs off [.u])⟩) d (.arr d g dd l) rfl
 simp only[eO]at ha
 rw[ha]
 generalize hs1:addT ⟨s.n,s.al,zAi s.ob ob (wrV cs off [.u])⟩ d (.arr d g dd l)=s1 at h2
 split at h2
 ·rename_i n1 cs1 hg1
  obtain⟨h3,h4⟩:=zAF h2
  rw[zBQ hg1]
  simp only[List.getElem?_cons_zero]
  refine zAR (by simp only[zAO,h3,Bool.and_self]) ?_
  have hw1:wr (eL cs1) off [SV.ar d]=eL (wrV cs1 off [.ar d]):=by rw[zCn];rfl
  have hlen1:(wrV cs1 off [V.ar d]).length=cs1.length:=zCW _ _ _ (by simpa using zBU h3)
  rw[hw1,zBf hg1 hlen1]
  have hn:s1.n=s.n:=by rw[←hs1];rfl
  rw[hn]
  exact hK _ h4
 ·cases h2
theorem zQl {ob off d:Nat}{K':St→Prop}(h:openT ob off d K s=some r)(hK:∀ s,K s=some r→K' (eS s)):zFy ob 0 off d K' (eS s):=by
 unfold openT at h
 split at h
 ·rename_i n cs hg
  split at h
  ·rename_i g dd l hv
   exact zPW hg hv rfl h hK
  ·rename_i g hv
   exact zPW (l:=[]) (dd:=true) hg hv rfl h hK
  ·rename_i hn1 hn2
   unfold zFy
   rw[zBQ hg]
   simp only[List.getElem?_cons_zero]
   rw[←zGJ]
   rcases zIP (lkV cs off)with⟨g,dd,l,hv⟩|⟨g,hv⟩|hv
   ·exact absurd hv (hn1 _ _ _)
   ·exact absurd hv (hn2 _)
   ·split
    ·rename_i hq;exact absurd hq (hv _ _)
    ·exact hK _ h
 ·cases h
theorem zGu {ob d:Nat}:∀(n j:Nat) {K:TS→Option R} {K':St→Prop} {s:TS},zUE ob d n j K s=some r→(∀s,K s=some r→K' (eS s))→zGw ob 0 d n j K' (eS s)
 |0,j,K,K',s,h,hK=>hK _ h
 |n+1,j,K,K',s,h,hK=>zQl h fun s1 h1=>zGu n (j+1) h1 hK
theorem zCc (off n:Nat)(l:List V):eL (zAX off n l)=((eL l).drop off).take n:=by
 simp only[zAX,zQE,List.map_take,List.map_drop]
theorem zHm (t:Nat)(cs:List V):AM.valOf T t (eL cs)=e (valV T t cs):=by
 unfold AM.valOf valV
 cases (T t).kind<;>first|rfl|exact(zGJ cs 0).symm
theorem zPe {t ob off:Nat}{d:Option Tmp}(hK:∀ s,K s=some r→K' (eS s))(h:zUN T t ob off d K s=some r):zPg T t ob 0 off d K' (eS s):=by
 unfold zUN at h
 split at h
 ·rename_i n cs hg
  obtain⟨h1,h2⟩:=zAF h
  unfold zPg
  rw[zBQ hg]
  simp only[List.getElem?_cons_zero]
  rw[←zCc,zHm,zBN,zAO]
  exact zAR h1 (Kq hK (zAS _ _) h2)
 ·cases h
theorem zPf {t ob i off:Nat}{d:Option Tmp}(hK:∀ s,K s=some r→K' (eS s))(h:zUO T t ob i off d K s=some r):zPg T t ob i off d K' (eS s):=by
 unfold zUO at h
 split at h
 ·rename_i n g0 d0 l0 j cs hg
  obtain⟨h5,h6⟩:=zAQ h
  simp only[Bool.and_eq_true,decide_eq_true_eq]at h5
  obtain⟨h5,h7⟩:=h5
  subst h5
  obtain⟨h1,h2⟩:=zAF h6
  unfold zPg
  rw[zBH hg]
  simp only[zDn h7]
  rw[←zCc,zHm,zBN,zAO]
  exact zAR h1 (Kq hK (zAS _ _) h2)
 ·cases h
theorem zHy:∀(ks:List TK) (cs:List V),shVL T ks cs=true→zFr T ks (eL cs)
 |[],[],_=>rfl
 |[],_::_,h=>by cases h
 |k::ks,[],h=>by cases h
 | k::ks,c::cs,h=>by
   simp only[shVL,Bool.and_eq_true]at h
   refine⟨?_,zHy ks cs h.2⟩
   have h1:=h.1
   cases k<;>cases c<;>simp only[e,eqK,decide_eq_true_eq,beq_iff_eq,Bool.false_eq_true]at h1 ⊢<;>first|exact h1|trivial
theorem zFB:∀(ks:List TK) (cs:List V) (B:List SV→Prop),shVL T ks cs=true→(∀row,B row)→zDz T ks B
 |[],[],B,_,hB=>hB _
 |[],_::_,B,h,_=>by cases h
 |k::ks,[],B,h,_=>by cases h
 | k::ks,c::cs,B,h,hB=>by
   simp only[shVL,Bool.and_eq_true]at h
   have h1:=h.1
   cases k with
   |int k=>exact fun n=>zFB ks cs _ h.2 fun row=>hB _
   |bool=>exact fun n=>zFB ks cs _ h.2 fun row=>hB _
   |str=>exact fun n=>zFB ks cs _ h.2 fun row=>hB _
   |slice t=>exact fun n=>zFB ks cs _ h.2 fun row=>hB _
   |_=>simp at h1
theorem tload {t:TypeId}{x:Operand}(ho:o.op = .load t x)(hK:∀ s,K s=some r→K' (eS s))(h:tstep T C o s K=some r):zAj T C' o (eS s) K':=by
 simp only[tstep,ho]at h
 simp only[zAj,ho]
 unfold loadT at h
 unfold zUM
 rw[zAq]
 split at h
 ·rename_i cs hv
  rw[hv]
  obtain⟨h1,h2⟩:=zAF h
  simp only[e]
  rw[zAO]
  refine zAR h1 (Kq hK ?_ h2)
  have:=zCc 0 (T t).size cs
  simp only[List.drop_zero]at this
  rw[←this,zHm,zAS]
 ·rename_i ob i off hv
  rw[hv]
  simp only[e]
  split at h
  ·rename_i n cs hg
   rw[zBQ hg]
   simp only
   cases i with
   |succ i=>cases h
   | zero =>
     simp only at h
     refine zGu _ _ h fun s1 h1=>?_
     unfold loadXT at h1
     unfold zUL
     rw[zAq]
     split at h1
     ·rename_i ob1 i1 off1 hv1
      rw[hv1]
      cases i1 with
      |succ i=>cases h1
      |zero=>exact zPe hK h1
     ·cases h1
  ·rename_i n g dd l hg
   rw[zBR hg]
   simp only
   obtain⟨h1,h2⟩:=zAF h
   simp only[Bool.and_eq_true,Bool.not_eq_true']at h1
   obtain⟨y,hy,h3⟩:=zEX h2
   obtain⟨h4,h5⟩:=zAF h3
   simp only[Bool.and_eq_true,Bool.not_eq_true']at h4
   have hrow:(l.map (encC dd g))[i]? = some (encC dd g y):=by rw[List.getElem?_map,hy];rfl
   have hlt:i<(l.map (encC dd g)).length:=zCD hrow
   unfold zTG
   split
   ·rename_i hk;rw[hk]at h1;cases h1.2
   ·refine zAR h1.1 ⟨hlt,fun row hr=>?_⟩
    rw[hrow]at hr
    simp only[Option.some.injEq]at hr
    subst hr
    have hcs:eL (zAX off (T t).size (cells dd g y))=((encC dd g y).drop off).take (T t).size:=by rw[zCc,zDk]
    refine⟨⟨by rw[zDV];exact zBU h4.1.1,by rw[←hcs];exact zHy _ _ h4.1.2⟩,zFB _ _ _ h4.1.2 fun row hrw=>?_⟩
    rw[←hcs]at hrw
    subst hrw
    rw[zHm,zBN]
    exact zAR (by rw[h4.2];rfl) (Kq hK (zAS _ _) h5)
  ·rename_i n g0 d0 l0 j cs hg
   rw[zBH hg]
   simp only
   refine zGv _ _ h fun s1 h1=>?_
   unfold loadXN at h1
   unfold zUL
   rw[zAq]
   split at h1
   ·rename_i ob1 i1 off1 hv1
    rw[hv1]
    exact zPf hK h1
   ·cases h1
  ·rename_i n g l k hg
   rw[zGF hg]
   simp only
   obtain⟨h1,h2⟩:=zAF h
   simp only[Bool.and_eq_true,Bool.not_eq_true']at h1
   obtain⟨hki,h2⟩:=zAQ h2
   have hki:=of_decide_eq_true hki
   obtain⟨y,hy,h3⟩:=zEX h2
   obtain⟨h4,h5⟩:=zAF h3
   simp only[Bool.and_eq_true,Bool.not_eq_true']at h4
   have hrow:(encM .spl g k l)[i]? = some (encC false g y):=zSV hki hy
   have hlt:i<(encM .spl g k l).length:=zCD hrow
   unfold zTG
   split
   ·rename_i hk;rw[hk]at h1;cases h1.2
   ·refine zAR h1.1 ⟨hlt,fun row hr=>?_⟩
    rw[hrow]at hr
    simp only[Option.some.injEq]at hr
    subst hr
    have hcs:eL (zAX off (T t).size (cells false g y))=((encC false g y).drop off).take (T t).size:=by rw[zCc,zDk]
    refine⟨⟨by rw[zDV];exact zBU h4.1.1,by rw[←hcs];exact zHy _ _ h4.1.2⟩,zFB _ _ _ h4.1.2 fun row hrw=>?_⟩
    rw[←hcs]at hrw
    subst hrw
    rw[zHm,zBN]
    exact zAR (by rw[h4.2];rfl) (Kq hK (zAS _ _) h5)
  ·cases h
 ·cases h
theorem zUT (hK:∀ s,K s=some r→K' (eS s)){d:Option Tmp}:∀s,kSkT d K s=some r→kSk d K' (eS s):=fun s h=>Kq hK (zAS d .sk) h
theorem zMT (d:Bool):∀(ks:List TK) (vs:List V),nilL (eL vs) (eL (nrmV T d ks vs))
 |[],[]=>rfl
 |_::_,[]=>rfl
 |[],v::vs=>⟨.inl rfl,zMT d [] vs⟩
 | k::ks,v::vs=>by
   simp only[nrmV,eL]
   refine⟨?_,zMT d ks vs⟩
   split
   ·split
    ·cases d
     ·exact .inr ⟨rfl,_,.inr rfl⟩
     ·exact .inr ⟨rfl,_,.inl rfl⟩
    ·exact .inl rfl
   ·exact .inl rfl
theorem tstore {t:TypeId}{x y:Operand}(ho:o.op = .store t x y)(hK:∀ s,K s=some r→K' (eS s))(h:tstep T C o s K=some r):zAj T C' o (eS s) K':=by
 simp only[tstep,ho]at h
 simp only[zAj,ho]
 unfold storeT at h
 unfold zRl
 rw[zAq,zAq]
 split at h
 ·rename_i ob i off hv
  rw[hv]
  simp only[e]
  rw[zCX]
  split at h
  ·rename_i n cs hg
   rw[zBQ hg]
   simp only
   cases i with
   |succ i=>cases h
   | zero =>
     simp only at h
     obtain⟨h1,h2⟩:=zAF h
     simp only[Bool.and_eq_true]at h1
     simp only[List.getElem?_cons_zero]
     rw[zCo,zAO,zDl,zAO]
     refine zAR (by simp only[h1.1.1.1,h1.1.1.2,h1.1.2,Bool.true_or,Bool.and_self]) (zAR h1.2 ?_)
     rw[←zCn,zBf hg (zCW _ _ _ (by rw[eq_of_beq h1.1.1.2];exact zBU h1.2))]
     have hn:(zAx s y).n=s.n:=by
      unfold zAx
      split
      ·split<;>rfl
      ·rfl
     rw[hn]
     exact zUT hK _ h2
  ·rename_i n g dd l hg
   rw[zBR hg]
   simp only
   obtain⟨h1,h2⟩:=zAF h
   simp only[Bool.and_eq_true]at h1
   rw[zCo,zAO,zDl,zMK]
   refine zAR (by simp only[h1.1.1.1.1,h1.1.1.1.2,h1.1.1.2,h1.1.2,Bool.or_true,Bool.and_self]) ?_
   obtain⟨z,hz,h3⟩:=zEX h2
   obtain⟨q,rest,h4,h5⟩:=zIL g _ _ h3
   have hrow:(l.map (encC dd g))[i]? = some (encC dd g z):=by rw[List.getElem?_map,hz];rfl
   refine⟨zCD hrow,fun row hr=>?_⟩
   rw[hrow]at hr
   simp only[Option.some.injEq]at hr
   subst hr
   refine⟨by rw[zDV];exact zBU h1.2,_,zMT (T:=T) dd (flat T 4 t) _,?_⟩
   cases rest with
   |cons a b=>cases h4
   | nil =>
     simp only[eL,List.append_nil,zCn,zDk]at h5
     rw[h5]
     have hset:(l.map (encC dd g)).set i (encC dd g q)=(l.set i q).map (encC dd g):=by rw[List.map_set]
     have hn:(zAx s y).n=s.n:=by
      unfold zAx
      split
      ·split<;>rfl
      ·rfl
     have hst:zAV (eS (zAx s y)) ob (l.map (encC dd g)) i (encC dd g q)=eS ⟨s.n,(zAx s y).al,zIA g dd (zAx s y).ob ob (l.set i q)⟩:=by
      simp only[zAV,hset,eS,zRt _ hg,hn]
     rw[hst]
     exact zUT hK _ h4
  ·rename_i n g0 d0 l0 j cs hg
   rw[zBH hg]
   simp only
   obtain⟨h1,h6⟩:=zAF h
   obtain⟨h5,h2⟩:=zAQ h6
   simp only[Bool.and_eq_true,decide_eq_true_eq]at h5
   obtain⟨h5,h7⟩:=h5
   subst h5
   simp only[Bool.and_eq_true]at h1
   simp only[zDn h7]
   rw[zCo,zAO,zDl,zAO]
   refine zAR (by simp only[h1.1.1.1,h1.1.1.2,h1.1.2,Bool.true_or,Bool.and_self]) (zAR h1.2 ?_)
   rw[←zCn,zCC hg]
   have hn:(zAx s y).n=s.n:=by
    unfold zAx
    split
    ·split<;>rfl
    ·rfl
   rw[hn]
   exact zUT hK _ h2
  ·cases h
  ·cases h
 ·cases h
end
end Go.TM
end
