/- Part 12 of the proof of FnTidy; no condition. -/
import Derived.Test.YtdpapeledldifaaGreatX10
set_option autoImplicit true
set_option relaxedAutoImplicit true
set_option linter.all false
section
namespace Go.TM
open Go.AM
section
variable {R:Type}{T:Nat→TI}{C:zQl R}{C':zAx}{o:Oper}{s:TS}{K:TS→Option R}{K':St→Prop}{r:R}
def zBm {ob:Nat}{n:Nat}{cs cs':List V}(hg:getT s.ob ob=some (.box n cs))(hl:cs'.length=cs.length):zAT (eS s) ob [eL cs] 0 (eL cs')=eS ⟨s.n,s.al,zAh s.ob ob cs'⟩:=by
 simp only[zAT,eS,zTJ s.ob hg hl]
def zBT {ob:Nat}{n:Nat}{cs:List V}(hg:getT s.ob ob=some (.box n cs)):zAZ (eS s).ob ob=some ⟨n,cs.length,[eL cs],true⟩:=by
 simp only[eS,zDi,hg,Option.map_some,eO]
def zBP {ob:Nat}{n:Nat}{g:GT}{d:Bool}{l:List g.Den}(hg:getT s.ob ob=some (.arr n g d l)):zAZ (eS s).ob ob=some ⟨n,g.sz,l.map (encC d g),false⟩:=by
 simp only[eS,zDi,hg,Option.map_some,eO]
def zHP {ob:Nat}{n:Nat}{g:GT}{l:List g.Den}{k:Nat}(hg:getT s.ob ob=some (.spl n g l k)):zAZ (eS s).ob ob=some ⟨n,g.sz,encM .spl g k l,false⟩:=by
 simp only[eS,zDi,hg,Option.map_some,eO]
def zBM {ob:Nat}{n:Nat}{g:GT}{d:DM}{l:List g.Den}{j:Nat}{cs:List V}(hg:getT s.ob ob=some (.opn n g d l j cs)):zAZ (eS s).ob ob=some ⟨n,g.sz,(encM d g j l).set j (eL cs),true⟩:=by
 simp only[eS,zDi,hg,Option.map_some,eO]
def zEM {g:GT}{d:DM}{l:List g.Den}{j:Nat}{cs:List V}(h:j<l.length):((encM d g j l).set j (eL cs))[j]? = some (eL cs):=by
 rw[List.getElem?_set_self (by rw[zDl];exact h)]
def zCO {ob:Nat}{n:Nat}{g:GT}{d:DM}{l:List g.Den}{j:Nat}{cs cs':List V}(hg:getT s.ob ob=some (.opn n g d l j cs)):zAT (eS s) ob ((encM d g j l).set j (eL cs)) j (eL cs')=eS ⟨s.n,s.al,zAl s.ob ob cs'⟩:=by
 simp only[zAT,eS,zTI s.ob hg]
def zTw {g:GT}{l:List g.Den}{k i:Nat}{y:g.Den}(h:k≤i)(e:l[i]? = some y):(encM .spl g k l)[i]? = some (encC false g y):=by
 have hi:=(List.getElem?_eq_some_iff.1 e).1;simp only[encM]
 rw[List.getElem?_append_right (by simp only[zLm,zLt];omega),List.getElem?_map,List.getElem?_drop];have:k+(i-((l.take k).map (encC true g)).length)=i:=by simp only[zLm,zLt];omega
 rw[this,e];rfl
def zPt {ob i off d n:Nat}{g0:GT}{d0:DM}{l0:List g0.Den}{cs:List V}{g:GT}{dd:Bool}{l:List g.Den}{v:V}{K':St→Prop}(hg:getT s.ob ob=some (.opn n g0 d0 l0 i cs))(hi:i<l0.length)(hv:lkV cs off=v)(hev:e v = .own g.sz (l.map (encC dd g)))
  (h:chkO (Nat.blt d 100000&&d != ob&&ble (off+1) cs.length)
    (match getT (addT ⟨s.n,s.al,zAl s.ob ob (wrV cs off [.u])⟩ d (.arr d g dd l)).ob ob with
    |some (.opn _ _ _ l1 j1 cs1)=>chkO (ble (off+1) cs1.length) (grdO (decide (i=j1)&&decide (j1<l1.length)) (K ⟨s.n,(addT ⟨s.n,s.al,zAl s.ob ob (wrV cs off [.u])⟩ d (.arr d g dd l)).al,
      zAl (addT ⟨s.n,s.al,zAl s.ob ob (wrV cs off [.u])⟩ d (.arr d g dd l)).ob ob (wrV cs1 off [.ar d])⟩))
    |_=>none)=some r) (hK:∀s,K s=some r→K' (eS s)):zHH ob i off d K' (eS s):=by
 obtain⟨h1,h2⟩:=zAF h;simp only[zBa]at h1;have hoff:off+1≤cs.length:=zBY h1.2;unfold zHH;rw[zBM hg];simp only[zEM hi]
 rw[←zHU,hv,hev];simp only
 refine zAQ (by simp only[h1.1.1,h1.1.2,h1.2,zAN,zBs]) ?_;have hw:wr (eL cs) off [SV.u]=eL (wrV cs off [.u]):=by rw[zDC];rfl
 rw[hw,zCO hg];have ha:=zIB (s:=⟨s.n,s.al,zAl s.ob ob (wrV cs off [.u])⟩) d (.arr d g dd l) rfl;simp only[eO]at ha;rw[ha];generalize hs1:addT ⟨s.n,s.al,zAl s.ob ob (wrV cs off [.u])⟩ d (.arr d g dd l)=s1 at h2;split at h2
 ·rename_i n1 g1 d1 l1 j1 cs1 hg1;obtain⟨h3,h4⟩:=zAF h2;obtain⟨h5,h6⟩:=zAP h4;simp only[zBa,zDe]at h5;obtain⟨h5,h7⟩:=h5;subst h5;rw[zBM hg1];simp only[zEM h7]
  refine zAQ (by simp only[zAN,h3,zBs]) ?_;have hw1:wr (eL cs1) off [SV.ar d]=eL (wrV cs1 off [.ar d]):=by rw[zDC];rfl
  rw[hw1,zCO hg1];have hn:s1.n=s.n:=by rw[←hs1];rfl
  rw[hn];exact hK _ h6
 ·cases h2
def zJy {ob i off d:Nat}{K':St→Prop}(h:openN ob i off d K s=some r)(hK:∀ s,K s=some r→K' (eS s)):zHH ob i off d K' (eS s):=by
 unfold openN at h;split at h
 ·rename_i n g0 d0 l0 j cs hg;obtain⟨h5,h6⟩:=zAP h;clear h;simp only[zBa,zDe]at h5;obtain⟨h5,h7⟩:=h5;subst h5;split at h6
  ·rename_i g dd l hv;exact zPt hg h7 hv rfl h6 hK
  ·rename_i g hv;exact zPt (l:=[]) (dd:=true) hg h7 hv rfl h6 hK
  ·rename_i hn1 hn2;unfold zHH;rw[zBM hg];simp only[zEM h7]
   rw[←zHU];rcases zJt (lkV cs off)with⟨g,dd,l,hv⟩|⟨g,hv⟩|hv
   ·exact absurd hv (hn1 _ _ _)
   ·exact absurd hv (hn2 _)
   ·split
    ·rename_i hq;exact absurd hq (hv _ _)
    ·exact hK _ h6
 ·cases h
def zIJ {ob i d:Nat}:∀(n j:Nat) {K:TS→Option R} {K':St→Prop} {s:TS},zWh ob i d n j K s=some r→(∀s,K s=some r→K' (eS s))→zIK ob i d n j K' (eS s)
 |0,j,K,K',s,h,hK=>hK _ h
 |n+1,j,K,K',s,h,hK=>zJy h fun s1 h1=>zIJ n (j+1) h1 hK
def zPs {ob off d n:Nat}{cs:List V}{g:GT}{dd:Bool}{l:List g.Den}{v:V}{K':St→Prop}(hg:getT s.ob ob=some (.box n cs))(hv:lkV cs off=v)(hev:e v = .own g.sz (l.map (encC dd g)))
  (h:chkO (Nat.blt d 100000&&d != ob&&ble (off+1) cs.length)
    (match getT (addT ⟨s.n,s.al,zAh s.ob ob (wrV cs off [.u])⟩ d (.arr d g dd l)).ob ob with
    |some (.box _ cs1)=>chkO (ble (off+1) cs1.length) (K ⟨s.n,(addT ⟨s.n,s.al,zAh s.ob ob (wrV cs off [.u])⟩ d (.arr d g dd l)).al,
      zAh (addT ⟨s.n,s.al,zAh s.ob ob (wrV cs off [.u])⟩ d (.arr d g dd l)).ob ob (wrV cs1 off [.ar d])⟩)
    |_=>none)=some r) (hK:∀s,K s=some r→K' (eS s)):zHH ob 0 off d K' (eS s):=by
 obtain⟨h1,h2⟩:=zAF h;simp only[zBa]at h1;have hoff:off+1≤cs.length:=zBY h1.2;unfold zHH;rw[zBT hg];simp only[List.getElem?_cons_zero]
 rw[←zHU,hv,hev];simp only
 refine zAQ (by simp only[h1.1.1,h1.1.2,h1.2,zAN,zBs]) ?_;have hw:wr (eL cs) off [SV.u]=eL (wrV cs off [.u]):=by rw[zDC];rfl
 have hlen:(wrV cs off [V.u]).length=cs.length:=zCk _ _ _ (by simpa using hoff);rw[hw,zBm hg hlen];have ha:=zIB (s:=⟨s.n,s.al,zAh s.ob ob (wrV cs off [.u])⟩) d (.arr d g dd l) rfl;simp only[eO]at ha;rw[ha];generalize hs1:addT ⟨s.n,s.al,zAh s.ob ob (wrV cs off [.u])⟩ d (.arr d g dd l)=s1 at h2;split at h2
 ·rename_i n1 cs1 hg1;obtain⟨h3,h4⟩:=zAF h2;rw[zBT hg1];simp only[List.getElem?_cons_zero]
  refine zAQ (by simp only[zAN,h3,zBs]) ?_;have hw1:wr (eL cs1) off [SV.ar d]=eL (wrV cs1 off [.ar d]):=by rw[zDC];rfl
  have hlen1:(wrV cs1 off [V.ar d]).length=cs1.length:=zCk _ _ _ (by simpa using zBY h3);rw[hw1,zBm hg1 hlen1];have hn:s1.n=s.n:=by rw[←hs1];rfl
  rw[hn];exact hK _ h4
 ·cases h2
def zRc {ob off d:Nat}{K':St→Prop}(h:openT ob off d K s=some r)(hK:∀ s,K s=some r→K' (eS s)):zHH ob 0 off d K' (eS s):=by
 unfold openT at h;split at h
 ·rename_i n cs hg;split at h
  ·rename_i g dd l hv;exact zPs hg hv rfl h hK
  ·rename_i g hv;exact zPs (l:=[]) (dd:=true) hg hv rfl h hK
  ·rename_i hn1 hn2;unfold zHH;rw[zBT hg];simp only[List.getElem?_cons_zero]
   rw[←zHU];rcases zJt (lkV cs off)with⟨g,dd,l,hv⟩|⟨g,hv⟩|hv
   ·exact absurd hv (hn1 _ _ _)
   ·exact absurd hv (hn2 _)
   ·split
    ·rename_i hq;exact absurd hq (hv _ _)
    ·exact hK _ h
 ·cases h
def zII {ob d:Nat}:∀(n j:Nat) {K:TS→Option R} {K':St→Prop} {s:TS},zWg ob d n j K s=some r→(∀s,K s=some r→K' (eS s))→zIK ob 0 d n j K' (eS s)
 |0,j,K,K',s,h,hK=>hK _ h
 |n+1,j,K,K',s,h,hK=>zRc h fun s1 h1=>zII n (j+1) h1 hK
def zCq (off n:Nat)(l:List V):eL (zAW off n l)=((eL l).drop off).take n:=by
 simp only[zAW,zQd,List.map_take,List.map_drop]
def zJC (t:Nat)(cs:List V):AM.valOf T t (eL cs)=e (valV T t cs):=by
 unfold AM.valOf valV;cases (T t).kind<;>first|rfl|exact(zHU cs 0).symm
def zQB {t ob off:Nat}{d:Option Tmp}(hK:∀ s,K s=some r→K' (eS s))(h:zWw T t ob off d K s=some r):zQD T t ob 0 off d K' (eS s):=by
 unfold zWw at h;split at h
 ·rename_i n cs hg;obtain⟨h1,h2⟩:=zAF h;unfold zQD;rw[zBT hg];simp only[List.getElem?_cons_zero]
  rw[←zCq,zJC,zBR,zAN];exact zAQ h1 (Kq hK (zAR _ _) h2)
 ·cases h
def zQC {t ob i off:Nat}{d:Option Tmp}(hK:∀ s,K s=some r→K' (eS s))(h:zWx T t ob i off d K s=some r):zQD T t ob i off d K' (eS s):=by
 unfold zWx at h;split at h
 ·rename_i n g0 d0 l0 j cs hg;obtain⟨h5,h6⟩:=zAP h;simp only[zBa,zDe]at h5;obtain⟨h5,h7⟩:=h5;subst h5;obtain⟨h1,h2⟩:=zAF h6;unfold zQD;rw[zBM hg];simp only[zEM h7]
  rw[←zCq,zJC,zBR,zAN];exact zAQ h1 (Kq hK (zAR _ _) h2)
 ·cases h
def zJY:∀(ks:List TK) (cs:List V),shVL T ks cs=true→zHA T ks (eL cs)
 |[],[],_=>rfl
 |[],_::_,h=>by cases h
 |k::ks,[],h=>by cases h
 | k::ks,c::cs,h=>by
   simp only[shVL,zBa]at h;refine⟨?_,zJY ks cs h.2⟩;have h1:=h.1;cases k<;>cases c<;>simp only[e,eqK,zDe,beq_iff_eq,zFt]at h1 ⊢<;>first|exact h1|trivial
def zFr:∀(ks:List TK) (cs:List V) (B:List SV→Prop),shVL T ks cs=true→(∀row,B row)→zEd T ks B
 |[],[],B,_,hB=>hB _
 |[],_::_,B,h,_=>by cases h
 |k::ks,[],B,h,_=>by cases h
 | k::ks,c::cs,B,h,hB=>by
   simp only[shVL,zBa]at h;have h1:=h.1;cases k with
   |int k=>exact fun n=>zFr ks cs _ h.2 fun row=>hB _
   |bool=>exact fun n=>zFr ks cs _ h.2 fun row=>hB _
   |str=>exact fun n=>zFr ks cs _ h.2 fun row=>hB _
   |slice t=>exact fun n=>zFr ks cs _ h.2 fun row=>hB _
   |_=>simp at h1
def tload {t:TypeId}{x:Operand}(ho:o.op = .load t x)(hK:∀ s,K s=some r→K' (eS s))(h:tstep T C o s K=some r):zAi T C' o (eS s) K':=by
 simp only[tstep,ho]at h;simp only[zAi,ho]
 unfold loadT at h;unfold zWv;rw[zAr];split at h
 ·rename_i cs hv;rw[hv];obtain⟨h1,h2⟩:=zAF h;simp only[e]
  rw[zAN];refine zAQ h1 (Kq hK ?_ h2);have:=zCq 0 (T t).size cs;simp only[List.drop_zero]at this;rw[←this,zJC,zAR]
 ·rename_i ob i off hv;rw[hv];simp only[e]
  split at h
  ·rename_i n cs hg;rw[zBT hg];simp only
   cases i with
   |succ i=>cases h
   | zero=>
     simp only at h;refine zII _ _ h fun s1 h1=>?_
     unfold loadXT at h1;unfold zWu;rw[zAr];split at h1
     ·rename_i ob1 i1 off1 hv1;rw[hv1];cases i1 with
      |succ i=>cases h1
      |zero=>exact zQB hK h1
     ·cases h1
  ·rename_i n g dd l hg;rw[zBP hg];simp only
   obtain⟨h1,h2⟩:=zAF h;simp only[zBa,Bool.not_eq_true']at h1;obtain⟨y,hy,h3⟩:=zFI h2;obtain⟨h4,h5⟩:=zAF h3;simp only[zBa,Bool.not_eq_true']at h4;have hrow:(l.map (encC dd g))[i]? = some (encC dd g y):=by rw[List.getElem?_map,hy];rfl
   have hlt:i<(l.map (encC dd g)).length:=zCP hrow;unfold zUm;split
   ·rename_i hk;rw[hk]at h1;cases h1.2
   ·refine zAQ h1.1 ⟨hlt,fun row hr=>?_⟩;rw[hrow]at hr;simp only[zSe]at hr;subst hr;have hcs:eL (zAW off (T t).size (cells dd g y))=((encC dd g y).drop off).take (T t).size:=by rw[zCq,zEG]
    refine⟨⟨by rw[zDm];exact zBY h4.1.1,by rw[←hcs];exact zJY _ _ h4.1.2⟩,zFr _ _ _ h4.1.2 fun row hrw=>?_⟩;rw[←hcs]at hrw;subst hrw;rw[zJC,zBR];exact zAQ (by rw[h4.2];rfl) (Kq hK (zAR _ _) h5)
  ·rename_i n g0 d0 l0 j cs hg;rw[zBM hg];simp only
   refine zIJ _ _ h fun s1 h1=>?_
   unfold loadXN at h1;unfold zWu;rw[zAr];split at h1
   ·rename_i ob1 i1 off1 hv1;rw[hv1];exact zQC hK h1
   ·cases h1
  ·rename_i n g l k hg;rw[zHP hg];simp only
   obtain⟨h1,h2⟩:=zAF h;simp only[zBa,Bool.not_eq_true']at h1;obtain⟨hki,h2⟩:=zAP h2;have hki:=of_decide_eq_true hki;obtain⟨y,hy,h3⟩:=zFI h2;obtain⟨h4,h5⟩:=zAF h3;simp only[zBa,Bool.not_eq_true']at h4;have hrow:(encM .spl g k l)[i]? = some (encC false g y):=zTw hki hy;have hlt:i<(encM .spl g k l).length:=zCP hrow;unfold zUm;split
   ·rename_i hk;rw[hk]at h1;cases h1.2
   ·refine zAQ h1.1 ⟨hlt,fun row hr=>?_⟩;rw[hrow]at hr;simp only[zSe]at hr;subst hr;have hcs:eL (zAW off (T t).size (cells false g y))=((encC false g y).drop off).take (T t).size:=by rw[zCq,zEG]
    refine⟨⟨by rw[zDm];exact zBY h4.1.1,by rw[←hcs];exact zJY _ _ h4.1.2⟩,zFr _ _ _ h4.1.2 fun row hrw=>?_⟩;rw[←hcs]at hrw;subst hrw;rw[zJC,zBR];exact zAQ (by rw[h4.2];rfl) (Kq hK (zAR _ _) h5)
  ·cases h
 ·cases h
def zXE (hK:∀ s,K s=some r→K' (eS s)){d:Option Tmp}:∀s,kSkT d K s=some r→kSk d K' (eS s):=fun s h=>Kq hK (zAR d .sk) h
def zNr (d:Bool):∀(ks:List TK) (vs:List V),nilL (eL vs) (eL (nrmV T d ks vs))
 |[],[]=>rfl
 |_::_,[]=>rfl
 |[],v::vs=>⟨.inl rfl,zNr d [] vs⟩
 | k::ks,v::vs=>by
   simp only[nrmV,eL]
   refine⟨?_,zNr d ks vs⟩;split
   ·split
    ·cases d
     ·exact .inr ⟨rfl,_,.inr rfl⟩
     ·exact .inr ⟨rfl,_,.inl rfl⟩
    ·exact .inl rfl
   ·exact .inl rfl
def tstore {t:TypeId}{x y:Operand}(ho:o.op = .store t x y)(hK:∀ s,K s=some r→K' (eS s))(h:tstep T C o s K=some r):zAi T C' o (eS s) K':=by
 simp only[tstep,ho]at h;simp only[zAi,ho]
 unfold storeT at h;unfold zTD;rw[zAr,zAr];split at h
 ·rename_i ob i off hv;rw[hv];simp only[e]
  rw[zCl];split at h
  ·rename_i n cs hg;rw[zBT hg];simp only
   cases i with
   |succ i=>cases h
   | zero=>
     simp only at h;obtain⟨h1,h2⟩:=zAF h;simp only[zBa]at h1;simp only[List.getElem?_cons_zero]
     rw[zDD,zAN,zEI,zAN];refine zAQ (by simp only[h1.1.1.1,h1.1.1.2,h1.1.2,Bool.true_or,zBs]) (zAQ h1.2 ?_);rw[←zDC,zBm hg (zCk _ _ _ (by rw[eq_of_beq h1.1.1.2];exact zBY h1.2))]
     have hn:(zBB s y).n=s.n:=by
      unfold zBB;split
      ·split<;>rfl
      ·rfl
     rw[hn];exact zXE hK _ h2
  ·rename_i n g dd l hg;rw[zBP hg];simp only
   obtain⟨h1,h2⟩:=zAF h;simp only[zBa]at h1;rw[zDD,zAN,zEI,zNh];refine zAQ (by simp only[h1.1.1.1.1,h1.1.1.1.2,h1.1.1.2,h1.1.2,Bool.or_true,zBs]) ?_;obtain⟨z,hz,h3⟩:=zFI h2;obtain⟨q,rest,h4,h5⟩:=zJm g _ _ h3;have hrow:(l.map (encC dd g))[i]? = some (encC dd g z):=by rw[List.getElem?_map,hz];rfl
   refine⟨zCP hrow,fun row hr=>?_⟩;rw[hrow]at hr;simp only[zSe]at hr;subst hr;refine⟨by rw[zDm];exact zBY h1.2,_,zNr (T:=T) dd (flat T 4 t) _,?_⟩;cases rest with
   |cons a b=>cases h4
   | nil=>
     simp only[eL,zAn,zDC,zEG]at h5;rw[h5];have hset:(l.map (encC dd g)).set i (encC dd g q)=(l.set i q).map (encC dd g):=by rw[List.map_set]
     have hn:(zBB s y).n=s.n:=by
      unfold zBB;split
      ·split<;>rfl
      ·rfl
     have hst:zAT (eS (zBB s y)) ob (l.map (encC dd g)) i (encC dd g q)=eS ⟨s.n,(zBB s y).al,zJa g dd (zBB s y).ob ob (l.set i q)⟩:=by
      simp only[zAT,hset,eS,zTK _ hg,hn]
     rw[hst];exact zXE hK _ h4
  ·rename_i n g0 d0 l0 j cs hg;rw[zBM hg];simp only
   obtain⟨h1,h6⟩:=zAF h;obtain⟨h5,h2⟩:=zAP h6;simp only[zBa,zDe]at h5;obtain⟨h5,h7⟩:=h5;subst h5;simp only[zBa]at h1;simp only[zEM h7]
   rw[zDD,zAN,zEI,zAN];refine zAQ (by simp only[h1.1.1.1,h1.1.1.2,h1.1.2,Bool.true_or,zBs]) (zAQ h1.2 ?_);rw[←zDC,zCO hg]
   have hn:(zBB s y).n=s.n:=by
    unfold zBB;split
    ·split<;>rfl
    ·rfl
   rw[hn];exact zXE hK _ h2
  ·cases h
  ·cases h
 ·cases h
end
end Go.TM
end
