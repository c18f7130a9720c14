/- Part 12 of the proof that the law FnRefs holds of every input; no condition. -/
import Derived.Test.YtdpapeledldifaaGreatX10
set_option autoImplicit true
set_option relaxedAutoImplicit true
set_option linter.all false
section
namespace Go.TM
open Go.AM
section
variable {R:Type}{T:Nat→TI}{C:zPT R}{C':zAt}{o:Oper}{s:TS}{K:TS→Option R}{K':St→Prop}{r:R}
theorem zBh {ob:Nat}{n:Nat}{cs cs':List V}(hg:getT s.ob ob=some (.box n cs))(hl:cs'.length=cs.length):zAS (eS s) ob [eL cs] 0 (eL cs')=eS ⟨s.n,s.al,zAg s.ob ob cs'⟩:=by
 simp only[zAS,eS,zRq s.ob hg hl]
theorem zBN {ob:Nat}{n:Nat}{cs:List V}(hg:getT s.ob ob=some (.box n cs)):zAb (eS s).ob ob=some ⟨n,cs.length,[eL cs],true⟩:=by
 simp only[eS,zDU,hg,Option.map_some,eO]
theorem zBO {ob:Nat}{n:Nat}{g:GT}{d:Bool}{l:List g.Den}(hg:getT s.ob ob=some (.arr n g d l)):zAb (eS s).ob ob=some ⟨n,g.sz,l.map (encC d g),false⟩:=by
 simp only[eS,zDU,hg,Option.map_some,eO]
theorem zGo {ob:Nat}{n:Nat}{g:GT}{l:List g.Den}{k:Nat}(hg:getT s.ob ob=some (.spl n g l k)):zAb (eS s).ob ob=some ⟨n,g.sz,encM .spl g k l,false⟩:=by
 simp only[eS,zDU,hg,Option.map_some,eO]
theorem zBF {ob:Nat}{n:Nat}{g:GT}{d:DM}{l:List g.Den}{j:Nat}{cs:List V}(hg:getT s.ob ob=some (.opn n g d l j cs)):zAb (eS s).ob ob=some ⟨n,g.sz,(encM d g j l).set j (eL cs),true⟩:=by
 simp only[eS,zDU,hg,Option.map_some,eO]
theorem zDv {g:GT}{d:DM}{l:List g.Den}{j:Nat}{cs:List V}(h:j<l.length):((encM d g j l).set j (eL cs))[j]? = some (eL cs):=by
 rw[List.getElem?_set_self (by rw[zDX];exact h)]
theorem zCF {ob:Nat}{n:Nat}{g:GT}{d:DM}{l:List g.Den}{j:Nat}{cs cs':List V}(hg:getT s.ob ob=some (.opn n g d l j cs)):zAS (eS s) ob ((encM d g j l).set j (eL cs)) j (eL cs')=eS ⟨s.n,s.al,zAj s.ob ob cs'⟩:=by
 simp only[zAS,eS,zRp s.ob hg]
theorem zSY {g:GT}{l:List g.Den}{k i:Nat}{y:g.Den}(h:k≤i)(e:l[i]? = some y):(encM .spl g k l)[i]? = some (encC false g y):=by
 have hi:=(List.getElem?_eq_some_iff.1 e).1
 simp only[encM]
 rw[List.getElem?_append_right (by simp only[List.length_map,List.length_take];omega),List.getElem?_map,List.getElem?_drop]
 have:k+(i-((l.take k).map (encC true g)).length)=i:=by simp only[List.length_map,List.length_take];omega
 rw[this,e];rfl
theorem zOa {ob i off d n:Nat}{g0:GT}{d0:DM}{l0:List g0.Den}{cs:List V}{g:GT}{dd:Bool}{l:List g.Den}{v:V}{K':St→Prop}(hg:getT s.ob ob=some (.opn n g0 d0 l0 i cs))(hi:i<l0.length)(hv:lkV cs off=v)(hev:e v = .own g.sz (l.map (encC dd g)))
  (h:chkO (Nat.blt d 100000&&d != ob&&ble (off+1) cs.length)
    (match getT (addT ⟨s.n,s.al,zAj s.ob ob (wrV cs off [.u])⟩ d (.arr d g dd l)).ob ob with
    |some (.opn _ _ _ l1 j1 cs1)=>chkO (ble (off+1) cs1.length) (grdO (decide (i=j1)&&decide (j1<l1.length)) (K ⟨s.n,(addT ⟨s.n,s.al,zAj s.ob ob (wrV cs off [.u])⟩ d (.arr d g dd l)).al,
      zAj (addT ⟨s.n,s.al,zAj s.ob ob (wrV cs off [.u])⟩ d (.arr d g dd l)).ob ob (wrV cs1 off [.ar d])⟩))
    |_=>none)=some r) (hK:∀s,K s=some r→K' (eS s)):zGg ob i off d K' (eS s):=by
 obtain⟨h1,h2⟩:=zAD h
 simp only[zBa]at h1
 have hoff:off+1≤cs.length:=zBS h1.2
 unfold zGg
 rw[zBF hg]
 simp only[zDv hi]
 rw[←zGs,hv,hev]
 simp only
 refine zAQ (by simp only[h1.1.1,h1.1.2,h1.2,zAO,Bool.and_self]) ?_
 have hw:wr (eL cs) off [SV.u]=eL (wrV cs off [.u]):=by rw[zCr];rfl
 rw[hw,zCF hg]
 have ha:=zHb (s:=⟨s.n,s.al,zAj s.ob ob (wrV cs off [.u])⟩) d (.arr d g dd l) rfl
 simp only[eO]at ha
 rw[ha]
 generalize hs1:addT ⟨s.n,s.al,zAj s.ob ob (wrV cs off [.u])⟩ d (.arr d g dd l)=s1 at h2
 split at h2
 ·rename_i n1 g1 d1 l1 j1 cs1 hg1
  obtain⟨h3,h4⟩:=zAD h2
  obtain⟨h5,h6⟩:=zAM h4
  simp only[zBa,zDe]at h5
  obtain⟨h5,h7⟩:=h5
  subst h5
  rw[zBF hg1]
  simp only[zDv h7]
  refine zAQ (by simp only[zAO,h3,Bool.and_self]) ?_
  have hw1:wr (eL cs1) off [SV.ar d]=eL (wrV cs1 off [.ar d]):=by rw[zCr];rfl
  rw[hw1,zCF hg1]
  have hn:s1.n=s.n:=by rw[←hs1];rfl
  rw[hn]
  exact hK _ h6
 ·cases h2
theorem zJP {ob i off d:Nat}{K':St→Prop}(h:openN ob i off d K s=some r)(hK:∀ s,K s=some r→K' (eS s)):zGg ob i off d K' (eS s):=by
 unfold openN at h
 split at h
 ·rename_i n g0 d0 l0 j cs hg
  obtain⟨h5,h6⟩:=zAM h
  clear h
  simp only[zBa,zDe]at h5
  obtain⟨h5,h7⟩:=h5
  subst h5
  split at h6
  ·rename_i g dd l hv
   exact zOa hg h7 hv rfl h6 hK
  ·rename_i g hv
   exact zOa (l:=[]) (dd:=true) hg h7 hv rfl h6 hK
  ·rename_i hn1 hn2
   unfold zGg
   rw[zBF hg]
   simp only[zDv h7]
   rw[←zGs]
   rcases zJM (lkV cs off)with⟨g,dd,l,hv⟩|⟨g,hv⟩|hv
   ·exact absurd hv (hn1 _ _ _)
   ·exact absurd hv (hn2 _)
   ·split
    ·rename_i hq;exact absurd hq (hv _ _)
    ·exact hK _ h6
 ·cases h
theorem zHi {ob i d:Nat}:∀(n j:Nat) {K:TS→Option R} {K':St→Prop} {s:TS},zUv ob i d n j K s=some r→(∀s,K s=some r→K' (eS s))→zHj ob i d n j K' (eS s)
 |0,j,K,K',s,h,hK=>hK _ h
 |n+1,j,K,K',s,h,hK=>zJP h fun s1 h1=>zHi n (j+1) h1 hK
theorem zOZ {ob off d n:Nat}{cs:List V}{g:GT}{dd:Bool}{l:List g.Den}{v:V}{K':St→Prop}(hg:getT s.ob ob=some (.box n cs))(hv:lkV cs off=v)(hev:e v = .own g.sz (l.map (encC dd g)))
  (h:chkO (Nat.blt d 100000&&d != ob&&ble (off+1) cs.length)
    (match getT (addT ⟨s.n,s.al,zAg s.ob ob (wrV cs off [.u])⟩ d (.arr d g dd l)).ob ob with
    |some (.box _ cs1)=>chkO (ble (off+1) cs1.length) (K ⟨s.n,(addT ⟨s.n,s.al,zAg s.ob ob (wrV cs off [.u])⟩ d (.arr d g dd l)).al,
      zAg (addT ⟨s.n,s.al,zAg s.ob ob (wrV cs off [.u])⟩ d (.arr d g dd l)).ob ob (wrV cs1 off [.ar d])⟩)
    |_=>none)=some r) (hK:∀s,K s=some r→K' (eS s)):zGg ob 0 off d K' (eS s):=by
 obtain⟨h1,h2⟩:=zAD h
 simp only[zBa]at h1
 have hoff:off+1≤cs.length:=zBS h1.2
 unfold zGg
 rw[zBN hg]
 simp only[List.getElem?_cons_zero]
 rw[←zGs,hv,hev]
 simp only
 refine zAQ (by simp only[h1.1.1,h1.1.2,h1.2,zAO,Bool.and_self]) ?_
 have hw:wr (eL cs) off [SV.u]=eL (wrV cs off [.u]):=by rw[zCr];rfl
 have hlen:(wrV cs off [V.u]).length=cs.length:=zCY _ _ _ (by simpa using hoff)
 rw[hw,zBh hg hlen]
 have ha:=zHb (s:=⟨s.n,s.al,zAg s.ob ob (wrV cs off [.u])⟩) d (.arr d g dd l) rfl
 simp only[eO]at ha
 rw[ha]
 generalize hs1:addT ⟨s.n,s.al,zAg s.ob ob (wrV cs off [.u])⟩ d (.arr d g dd l)=s1 at h2
 split at h2
 ·rename_i n1 cs1 hg1
  obtain⟨h3,h4⟩:=zAD h2
  rw[zBN hg1]
  simp only[List.getElem?_cons_zero]
  refine zAQ (by simp only[zAO,h3,Bool.and_self]) ?_
  have hw1:wr (eL cs1) off [SV.ar d]=eL (wrV cs1 off [.ar d]):=by rw[zCr];rfl
  have hlen1:(wrV cs1 off [V.ar d]).length=cs1.length:=zCY _ _ _ (by simpa using zBS h3)
  rw[hw1,zBh hg1 hlen1]
  have hn:s1.n=s.n:=by rw[←hs1];rfl
  rw[hn]
  exact hK _ h4
 ·cases h2
theorem zQM {ob off d:Nat}{K':St→Prop}(h:openT ob off d K s=some r)(hK:∀ s,K s=some r→K' (eS s)):zGg ob 0 off d K' (eS s):=by
 unfold openT at h
 split at h
 ·rename_i n cs hg
  split at h
  ·rename_i g dd l hv
   exact zOZ hg hv rfl h hK
  ·rename_i g hv
   exact zOZ (l:=[]) (dd:=true) hg hv rfl h hK
  ·rename_i hn1 hn2
   unfold zGg
   rw[zBN hg]
   simp only[List.getElem?_cons_zero]
   rw[←zGs]
   rcases zJM (lkV cs off)with⟨g,dd,l,hv⟩|⟨g,hv⟩|hv
   ·exact absurd hv (hn1 _ _ _)
   ·exact absurd hv (hn2 _)
   ·split
    ·rename_i hq;exact absurd hq (hv _ _)
    ·exact hK _ h
 ·cases h
theorem zHh {ob d:Nat}:∀(n j:Nat) {K:TS→Option R} {K':St→Prop} {s:TS},zUu ob d n j K s=some r→(∀s,K s=some r→K' (eS s))→zHj ob 0 d n j K' (eS s)
 |0,j,K,K',s,h,hK=>hK _ h
 |n+1,j,K,K',s,h,hK=>zQM h fun s1 h1=>zHh n (j+1) h1 hK
theorem zCf (off n:Nat)(l:List V):eL (zAV off n l)=((eL l).drop off).take n:=by
 simp only[zAV,zPK,List.map_take,List.map_drop]
theorem zIc (t:Nat)(cs:List V):AM.valOf T t (eL cs)=e (valV T t cs):=by
 unfold AM.valOf valV
 cases (T t).kind<;>first|rfl|exact(zGs cs 0).symm
theorem zOh {t ob off:Nat}{d:Option Tmp}(hK:∀ s,K s=some r→K' (eS s))(h:zVN T t ob off d K s=some r):zOj T t ob 0 off d K' (eS s):=by
 unfold zVN at h
 split at h
 ·rename_i n cs hg
  obtain⟨h1,h2⟩:=zAD h
  unfold zOj
  rw[zBN hg]
  simp only[List.getElem?_cons_zero]
  rw[←zCf,zIc,zBK,zAO]
  exact zAQ h1 (Kq hK (zAR _ _) h2)
 ·cases h
theorem zOi {t ob i off:Nat}{d:Option Tmp}(hK:∀ s,K s=some r→K' (eS s))(h:zVO T t ob i off d K s=some r):zOj T t ob i off d K' (eS s):=by
 unfold zVO at h
 split at h
 ·rename_i n g0 d0 l0 j cs hg
  obtain⟨h5,h6⟩:=zAM h
  simp only[zBa,zDe]at h5
  obtain⟨h5,h7⟩:=h5
  subst h5
  obtain⟨h1,h2⟩:=zAD h6
  unfold zOj
  rw[zBF hg]
  simp only[zDv h7]
  rw[←zCf,zIc,zBK,zAO]
  exact zAQ h1 (Kq hK (zAR _ _) h2)
 ·cases h
theorem zIu:∀(ks:List TK) (cs:List V),shVL T ks cs=true→zGY T ks (eL cs)
 |[],[],_=>rfl
 |[],_::_,h=>by cases h
 |k::ks,[],h=>by cases h
 | k::ks,c::cs,h=>by
   simp only[shVL,zBa]at h
   refine⟨?_,zIu ks cs h.2⟩
   have h1:=h.1
   cases k<;>cases c<;>simp only[e,eqK,zDe,beq_iff_eq,Bool.false_eq_true]at h1 ⊢<;>first|exact h1|trivial
theorem zFV:∀(ks:List TK) (cs:List V) (B:List SV→Prop),shVL T ks cs=true→(∀row,B row)→zEJ T ks B
 |[],[],B,_,hB=>hB _
 |[],_::_,B,h,_=>by cases h
 |k::ks,[],B,h,_=>by cases h
 | k::ks,c::cs,B,h,hB=>by
   simp only[shVL,zBa]at h
   have h1:=h.1
   cases k with
   |int k=>exact fun n=>zFV ks cs _ h.2 fun row=>hB _
   |bool=>exact fun n=>zFV ks cs _ h.2 fun row=>hB _
   |str=>exact fun n=>zFV ks cs _ h.2 fun row=>hB _
   |slice t=>exact fun n=>zFV ks cs _ h.2 fun row=>hB _
   |_=>simp at h1
theorem tload {t:TypeId}{x:Operand}(ho:o.op = .load t x)(hK:∀ s,K s=some r→K' (eS s))(h:tstep T C o s K=some r):zAh T C' o (eS s) K':=by
 simp only[tstep,ho]at h
 simp only[zAh,ho]
 unfold loadT at h
 unfold zVM
 rw[zAp]
 split at h
 ·rename_i cs hv
  rw[hv]
  obtain⟨h1,h2⟩:=zAD h
  simp only[e]
  rw[zAO]
  refine zAQ h1 (Kq hK ?_ h2)
  have:=zCf 0 (T t).size cs
  simp only[List.drop_zero]at this
  rw[←this,zIc,zAR]
 ·rename_i ob i off hv
  rw[hv]
  simp only[e]
  split at h
  ·rename_i n cs hg
   rw[zBN hg]
   simp only
   cases i with
   |succ i=>cases h
   | zero =>
     simp only at h
     refine zHh _ _ h fun s1 h1=>?_
     unfold loadXT at h1
     unfold zVL
     rw[zAp]
     split at h1
     ·rename_i ob1 i1 off1 hv1
      rw[hv1]
      cases i1 with
      |succ i=>cases h1
      |zero=>exact zOh hK h1
     ·cases h1
  ·rename_i n g dd l hg
   rw[zBO hg]
   simp only
   obtain⟨h1,h2⟩:=zAD h
   simp only[zBa,Bool.not_eq_true']at h1
   obtain⟨y,hy,h3⟩:=zEo h2
   obtain⟨h4,h5⟩:=zAD h3
   simp only[zBa,Bool.not_eq_true']at h4
   have hrow:(l.map (encC dd g))[i]? = some (encC dd g y):=by rw[List.getElem?_map,hy];rfl
   have hlt:i<(l.map (encC dd g)).length:=zCG hrow
   unfold zTN
   split
   ·rename_i hk;rw[hk]at h1;cases h1.2
   ·refine zAQ h1.1 ⟨hlt,fun row hr=>?_⟩
    rw[hrow]at hr
    simp only[zSe]at hr
    subst hr
    have hcs:eL (zAV off (T t).size (cells dd g y))=((encC dd g y).drop off).take (T t).size:=by rw[zCf,zDr]
    refine⟨⟨by rw[zDY];exact zBS h4.1.1,by rw[←hcs];exact zIu _ _ h4.1.2⟩,zFV _ _ _ h4.1.2 fun row hrw=>?_⟩
    rw[←hcs]at hrw
    subst hrw
    rw[zIc,zBK]
    exact zAQ (by rw[h4.2];rfl) (Kq hK (zAR _ _) h5)
  ·rename_i n g0 d0 l0 j cs hg
   rw[zBF hg]
   simp only
   refine zHi _ _ h fun s1 h1=>?_
   unfold loadXN at h1
   unfold zVL
   rw[zAp]
   split at h1
   ·rename_i ob1 i1 off1 hv1
    rw[hv1]
    exact zOi hK h1
   ·cases h1
  ·rename_i n g l k hg
   rw[zGo hg]
   simp only
   obtain⟨h1,h2⟩:=zAD h
   simp only[zBa,Bool.not_eq_true']at h1
   obtain⟨hki,h2⟩:=zAM h2
   have hki:=of_decide_eq_true hki
   obtain⟨y,hy,h3⟩:=zEo h2
   obtain⟨h4,h5⟩:=zAD h3
   simp only[zBa,Bool.not_eq_true']at h4
   have hrow:(encM .spl g k l)[i]? = some (encC false g y):=zSY hki hy
   have hlt:i<(encM .spl g k l).length:=zCG hrow
   unfold zTN
   split
   ·rename_i hk;rw[hk]at h1;cases h1.2
   ·refine zAQ h1.1 ⟨hlt,fun row hr=>?_⟩
    rw[hrow]at hr
    simp only[zSe]at hr
    subst hr
    have hcs:eL (zAV off (T t).size (cells false g y))=((encC false g y).drop off).take (T t).size:=by rw[zCf,zDr]
    refine⟨⟨by rw[zDY];exact zBS h4.1.1,by rw[←hcs];exact zIu _ _ h4.1.2⟩,zFV _ _ _ h4.1.2 fun row hrw=>?_⟩
    rw[←hcs]at hrw
    subst hrw
    rw[zIc,zBK]
    exact zAQ (by rw[h4.2];rfl) (Kq hK (zAR _ _) h5)
  ·cases h
 ·cases h
theorem zVV (hK:∀ s,K s=some r→K' (eS s)){d:Option Tmp}:∀s,kSkT d K s=some r→kSk d K' (eS s):=fun s h=>Kq hK (zAR d .sk) h
theorem zMd (d:Bool):∀(ks:List TK) (vs:List V),nilL (eL vs) (eL (nrmV T d ks vs))
 |[],[]=>rfl
 |_::_,[]=>rfl
 |[],v::vs=>⟨.inl rfl,zMd d [] vs⟩
 | k::ks,v::vs=>by
   simp only[nrmV,eL]
   refine⟨?_,zMd d ks vs⟩
   split
   ·split
    ·cases d
     ·exact .inr ⟨rfl,_,.inr rfl⟩
     ·exact .inr ⟨rfl,_,.inl rfl⟩
    ·exact .inl rfl
   ·exact .inl rfl
theorem tstore {t:TypeId}{x y:Operand}(ho:o.op = .store t x y)(hK:∀ s,K s=some r→K' (eS s))(h:tstep T C o s K=some r):zAh T C' o (eS s) K':=by
 simp only[tstep,ho]at h
 simp only[zAh,ho]
 unfold storeT at h
 unfold zRk
 rw[zAp,zAp]
 split at h
 ·rename_i ob i off hv
  rw[hv]
  simp only[e]
  rw[zCa]
  split at h
  ·rename_i n cs hg
   rw[zBN hg]
   simp only
   cases i with
   |succ i=>cases h
   | zero =>
     simp only at h
     obtain⟨h1,h2⟩:=zAD h
     simp only[zBa]at h1
     simp only[List.getElem?_cons_zero]
     rw[zCs,zAO,zDt,zAO]
     refine zAQ (by simp only[h1.1.1.1,h1.1.1.2,h1.1.2,Bool.true_or,Bool.and_self]) (zAQ h1.2 ?_)
     rw[←zCr,zBh hg (zCY _ _ _ (by rw[eq_of_beq h1.1.1.2];exact zBS h1.2))]
     have hn:(zAv s y).n=s.n:=by
      unfold zAv
      split
      ·split<;>rfl
      ·rfl
     rw[hn]
     exact zVV hK _ h2
  ·rename_i n g dd l hg
   rw[zBO hg]
   simp only
   obtain⟨h1,h2⟩:=zAD h
   simp only[zBa]at h1
   rw[zCs,zAO,zDt,zMU]
   refine zAQ (by simp only[h1.1.1.1.1,h1.1.1.1.2,h1.1.1.2,h1.1.2,Bool.or_true,Bool.and_self]) ?_
   obtain⟨z,hz,h3⟩:=zEo h2
   obtain⟨q,rest,h4,h5⟩:=zJI g _ _ h3
   have hrow:(l.map (encC dd g))[i]? = some (encC dd g z):=by rw[List.getElem?_map,hz];rfl
   refine⟨zCG hrow,fun row hr=>?_⟩
   rw[hrow]at hr
   simp only[zSe]at hr
   subst hr
   refine⟨by rw[zDY];exact zBS h1.2,_,zMd (T:=T) dd (flat T 4 t) _,?_⟩
   cases rest with
   |cons a b=>cases h4
   | nil =>
     simp only[eL,List.append_nil,zCr,zDr]at h5
     rw[h5]
     have hset:(l.map (encC dd g)).set i (encC dd g q)=(l.set i q).map (encC dd g):=by rw[List.map_set]
     have hn:(zAv s y).n=s.n:=by
      unfold zAv
      split
      ·split<;>rfl
      ·rfl
     have hst:zAS (eS (zAv s y)) ob (l.map (encC dd g)) i (encC dd g q)=eS ⟨s.n,(zAv s y).al,zIw g dd (zAv s y).ob ob (l.set i q)⟩:=by
      simp only[zAS,hset,eS,zRr _ hg,hn]
     rw[hst]
     exact zVV hK _ h4
  ·rename_i n g0 d0 l0 j cs hg
   rw[zBF hg]
   simp only
   obtain⟨h1,h6⟩:=zAD h
   obtain⟨h5,h2⟩:=zAM h6
   simp only[zBa,zDe]at h5
   obtain⟨h5,h7⟩:=h5
   subst h5
   simp only[zBa]at h1
   simp only[zDv h7]
   rw[zCs,zAO,zDt,zAO]
   refine zAQ (by simp only[h1.1.1.1,h1.1.1.2,h1.1.2,Bool.true_or,Bool.and_self]) (zAQ h1.2 ?_)
   rw[←zCr,zCF hg]
   have hn:(zAv s y).n=s.n:=by
    unfold zAv
    split
    ·split<;>rfl
    ·rfl
   rw[hn]
   exact zVV hK _ h2
  ·cases h
  ·cases h
 ·cases h
end
end Go.TM
end
