/- Part 12 of the proof of FnTidyAll; no condition. -/
import Derived.Test.YtmjlecabpbiigaaGreatX10
open Option renaming some -> U
open Decidable renaming decide -> aa
open Bool renaming true -> ae
open Bool renaming false -> ag
open Option renaming none -> aj
open Sum renaming inr -> an
open Sum renaming inl -> ao
open List renaming length -> au
open Int renaming toNat -> aw
open List renaming drop -> cU
open List renaming take -> de
set_option autoImplicit true
set_option relaxedAutoImplicit true
set_option linter.all false
section
namespace Go.TM
open Go.AM
section
variable {R:Type}{T:Nat->TI}{C:nw R}{C':zAz}{o:Oper}{s:TS}{K:TS->Option R}{K':St->Prop}{r:R}
def oR {ob:Nat}{n:Nat}{cs cs':List V}(hg:bb s.ob ob=U (.box n cs))(hl:cs'.length=cs.length):eG (eS s) ob [eL cs] 0 (eL cs')=eS ⟨s.n,s.al,du s.ob ob cs'⟩:=by
 simp only[eG,eS,GG s.ob hg hl]
def jV {ob:Nat}{n:Nat}{cs:List V}(hg:bb s.ob ob=U (.box n cs)):bu (eS s).ob ob=U ⟨n,cs.length,[eL cs],ae⟩:=by
 simp only[eS,kQ,hg,Option.map_some,eO]
def jw {ob:Nat}{n:Nat}{g:GT}{d:Bool}{l:List g.Den}(hg:bb s.ob ob=U (.arr n g d l)):bu (eS s).ob ob=U ⟨n,g.sz,l.map (aO d g),ag⟩:=by
 simp only[eS,kQ,hg,Option.map_some,eO]
def vO {ob:Nat}{n:Nat}{g:GT}{l:List g.Den}{k:Nat}(hg:bb s.ob ob=U (.spl n g l k)):bu (eS s).ob ob=U ⟨n,g.sz,cn .spl g k l,ag⟩:=by
 simp only[eS,kQ,hg,Option.map_some,eO]
def i7 {ob:Nat}{n:Nat}{g:GT}{d:DM}{l:List g.Den}{j:Nat}{cs:List V}(hg:bb s.ob ob=U (.opn n g d l j cs)):bu (eS s).ob ob=U ⟨n,g.sz,(cn d g j l).set j (eL cs),ae⟩:=by
 simp only[eS,kQ,hg,Option.map_some,eO]
def lF {g:GT}{d:DM}{l:List g.Den}{j:Nat}{cs:List V}(h:j<l.length):((cn d g j l).set j (eL cs))[j]? = U (eL cs):=by
 rw[List.getElem?_set_self (by rw[sh];exact h)]
def qi {ob:Nat}{n:Nat}{g:GT}{d:DM}{l:List g.Den}{j:Nat}{cs cs':List V}(hg:bb s.ob ob=U (.opn n g d l j cs)):eG (eS s) ob ((cn d g j l).set j (eL cs)) j (eL cs')=eS ⟨s.n,s.al,dF s.ob ob cs'⟩:=by
 simp only[eG,eS,GI s.ob hg]
def GY {g:GT}{l:List g.Den}{k i:Nat}{y:g.Den}(h:k<=i)(e:l[i]? = U y):(cn .spl g k l)[i]? = U (aO ag g y):=by
 have hi:=(List.getElem?_eq_some_iff.1 e).1;simp only[cn]
 rw[List.getElem?_append_right (by simp only[cG,bT];omega),List.getElem?_map,List.getElem?_drop];have:k+(i-((l.take k).map (aO ae g)).length)=i:=by simp only[cG,bT];omega
 rw[this,e];rfl
def GZ {ob i off d n:Nat}{g0:GT}{d0:DM}{l0:List g0.Den}{cs:List V}{g:GT}{dd:Bool}{l:List g.Den}{v:V}{K':St->Prop}(hg:bb s.ob ob=U (.opn n g0 d0 l0 i cs))(hi:i<l0.length)(hv:dE cs off=v)(hev:e v = .own g.sz (l.map (aO dd g)))
  (h:aX (Nat.blt d 100000&&d != ob&&ble (off+1) cs.length)
    (match bb (dP ⟨s.n,s.al,dF s.ob ob (bz cs off [.u])⟩ d (.arr d g dd l)).ob ob with
    |some (.opn _ _ _ l1 j1 cs1)=>aX (ble (off+1) cs1.length) (af (aa (i=j1)&&aa (j1<l1.length)) (K ⟨s.n,(dP ⟨s.n,s.al,dF s.ob ob (bz cs off [.u])⟩ d (.arr d g dd l)).al,
      dF (dP ⟨s.n,s.al,dF s.ob ob (bz cs off [.u])⟩ d (.arr d g dd l)).ob ob (bz cs1 off [.ar d])⟩))
    |_=>aj)=U r) (hK:∀s,K s=U r->K' (eS s)):jq ob i off d K' (eS s):=by
 obtain⟨h1,h2⟩:=bj h;simp only[aK]at h1;have hoff:off+1<=cs.length:=dZ h1.2;unfold jq;rw[i7 hg];simp only[lF hi]
 rw[<-jv,hv,hev];simp only
 refine bG (by simp only[h1.1.1,h1.1.2,h1.2,cN,ba]) ?_;have hw:wr (eL cs) off [SV.u]=eL (bz cs off [.u]):=by rw[g9];rfl
 rw[hw,qi hg];have ha:=nt (s:=⟨s.n,s.al,dF s.ob ob (bz cs off [.u])⟩) d (.arr d g dd l) rfl;simp only[eO]at ha;rw[ha];generalize hs1:dP ⟨s.n,s.al,dF s.ob ob (bz cs off [.u])⟩ d (.arr d g dd l)=s1 at h2;split at h2
 ·rename_i n1 g1 d1 l1 j1 cs1 hg1;obtain⟨h3,h4⟩:=bj h2;obtain⟨h5,h6⟩:=cR h4;simp only[aK,aL]at h5;obtain⟨h5,h7⟩:=h5;subst h5;rw[i7 hg1];simp only[lF h7]
  refine bG (by simp only[cN,h3,ba]) ?_;have hw1:wr (eL cs1) off [SV.ar d]=eL (bz cs1 off [.ar d]):=by rw[g9];rfl
  rw[hw1,qi hg1];have hn:s1.n=s.n:=by rw[<-hs1];rfl
  rw[hn];exact hK _ h6
 ·cases h2
def G4 {ob i off d:Nat}{K':St->Prop}(h:vC ob i off d K s=U r)(hK:∀ s,K s=U r->K' (eS s)):jq ob i off d K' (eS s):=by
 unfold vC at h;split at h
 ·rename_i n g0 d0 l0 j cs hg;obtain⟨h5,h6⟩:=cR h;clear h;simp only[aK,aL]at h5;obtain⟨h5,h7⟩:=h5;subst h5;split at h6
  ·rename_i g dd l hv;exact GZ hg h7 hv rfl h6 hK
  ·rename_i g hv;exact GZ (l:=[]) (dd:=ae) hg h7 hv rfl h6 hK
  ·rename_i hn1 hn2;unfold jq;rw[i7 hg];simp only[lF h7]
   rw[<-jv];rcases A6 (dE cs off)with⟨g,dd,l,hv⟩|⟨g,hv⟩|hv
   ·exact absurd hv (hn1 _ _ _)
   ·exact absurd hv (hn2 _)
   ·split
    ·rename_i hq;exact absurd hq (hv _ _)
    ·exact hK _ h6
 ·cases h
def G5 {ob i d:Nat}:∀(n j:Nat) {K:TS->Option R} {K':St->Prop} {s:TS},AY ob i d n j K s=U r->(∀s,K s=U r->K' (eS s))->m8 ob i d n j K' (eS s)
 |0,j,K,K',s,h,hK=>hK _ h
 |n+1,j,K,K',s,h,hK=>G4 h fun s1 h1=>G5 n (j+1) h1 hK
def G6 {ob off d n:Nat}{cs:List V}{g:GT}{dd:Bool}{l:List g.Den}{v:V}{K':St->Prop}(hg:bb s.ob ob=U (.box n cs))(hv:dE cs off=v)(hev:e v = .own g.sz (l.map (aO dd g)))
  (h:aX (Nat.blt d 100000&&d != ob&&ble (off+1) cs.length)
    (match bb (dP ⟨s.n,s.al,du s.ob ob (bz cs off [.u])⟩ d (.arr d g dd l)).ob ob with
    |some (.box _ cs1)=>aX (ble (off+1) cs1.length) (K ⟨s.n,(dP ⟨s.n,s.al,du s.ob ob (bz cs off [.u])⟩ d (.arr d g dd l)).al,
      du (dP ⟨s.n,s.al,du s.ob ob (bz cs off [.u])⟩ d (.arr d g dd l)).ob ob (bz cs1 off [.ar d])⟩)
    |_=>aj)=U r) (hK:∀s,K s=U r->K' (eS s)):jq ob 0 off d K' (eS s):=by
 obtain⟨h1,h2⟩:=bj h;simp only[aK]at h1;have hoff:off+1<=cs.length:=dZ h1.2;unfold jq;rw[jV hg];simp only[List.getElem?_cons_zero]
 rw[<-jv,hv,hev];simp only
 refine bG (by simp only[h1.1.1,h1.1.2,h1.2,cN,ba]) ?_;have hw:wr (eL cs) off [SV.u]=eL (bz cs off [.u]):=by rw[g9];rfl
 have hlen:(bz cs off [V.u]).length=cs.length:=oL _ _ _ (by simpa using hoff);rw[hw,oR hg hlen];have ha:=nt (s:=⟨s.n,s.al,du s.ob ob (bz cs off [.u])⟩) d (.arr d g dd l) rfl;simp only[eO]at ha;rw[ha];generalize hs1:dP ⟨s.n,s.al,du s.ob ob (bz cs off [.u])⟩ d (.arr d g dd l)=s1 at h2;split at h2
 ·rename_i n1 cs1 hg1;obtain⟨h3,h4⟩:=bj h2;rw[jV hg1];simp only[List.getElem?_cons_zero]
  refine bG (by simp only[cN,h3,ba]) ?_;have hw1:wr (eL cs1) off [SV.ar d]=eL (bz cs1 off [.ar d]):=by rw[g9];rfl
  have hlen1:(bz cs1 off [V.ar d]).length=cs1.length:=oL _ _ _ (by simpa using dZ h3);rw[hw1,oR hg1 hlen1];have hn:s1.n=s.n:=by rw[<-hs1];rfl
  rw[hn];exact hK _ h4
 ·cases h2
def N3 {ob off d:Nat}{K':St->Prop}(h:AU ob off d K s=U r)(hK:∀ s,K s=U r->K' (eS s)):jq ob 0 off d K' (eS s):=by
 unfold AU at h;split at h
 ·rename_i n cs hg;split at h
  ·rename_i g dd l hv;exact G6 hg hv rfl h hK
  ·rename_i g hv;exact G6 (l:=[]) (dd:=ae) hg hv rfl h hK
  ·rename_i hn1 hn2;unfold jq;rw[jV hg];simp only[List.getElem?_cons_zero]
   rw[<-jv];rcases A6 (dE cs off)with⟨g,dd,l,hv⟩|⟨g,hv⟩|hv
   ·exact absurd hv (hn1 _ _ _)
   ·exact absurd hv (hn2 _)
   ·split
    ·rename_i hq;exact absurd hq (hv _ _)
    ·exact hK _ h
 ·cases h
def G7 {ob d:Nat}:∀(n j:Nat) {K:TS->Option R} {K':St->Prop} {s:TS},AV ob d n j K s=U r->(∀s,K s=U r->K' (eS s))->m8 ob 0 d n j K' (eS s)
 |0,j,K,K',s,h,hK=>hK _ h
 |n+1,j,K,K',s,h,hK=>N3 h fun s1 h1=>G7 n (j+1) h1 hK
def oS (off n:Nat)(l:List V):eL (dm off n l)=((eL l).drop off).take n:=by
 simp only[dm,sf,List.map_take,List.map_drop]
def oT (t:Nat)(cs:List V):AM.valOf T t (eL cs)=e (dt T t cs):=by
 unfold AM.valOf dt;cases (T t).kind<;>first|rfl|exact(jv cs 0).symm
def N4 {t ob off:Nat}{d:Option Tmp}(hK:∀ s,K s=U r->K' (eS s))(h:AW T t ob off d K s=U r):m9 T t ob 0 off d K' (eS s):=by
 unfold AW at h;split at h
 ·rename_i n cs hg;obtain⟨h1,h2⟩:=bj h;unfold m9;rw[jV hg];simp only[List.getElem?_cons_zero]
  rw[<-oS,oT,iB,cN];exact bG h1 (Kq hK (bP _ _) h2)
 ·cases h
def N5 {t ob i off:Nat}{d:Option Tmp}(hK:∀ s,K s=U r->K' (eS s))(h:AZ T t ob i off d K s=U r):m9 T t ob i off d K' (eS s):=by
 unfold AZ at h;split at h
 ·rename_i n g0 d0 l0 j cs hg;obtain⟨h5,h6⟩:=cR h;simp only[aK,aL]at h5;obtain⟨h5,h7⟩:=h5;subst h5;obtain⟨h1,h2⟩:=bj h6;unfold m9;rw[i7 hg];simp only[lF h7]
  rw[<-oS,oT,iB,cN];exact bG h1 (Kq hK (bP _ _) h2)
 ·cases h
def A7:∀(ks:List TK) (cs:List V),oO T ks cs=ae->l_ T ks (eL cs)
 |[],[],_=>rfl
 |[],_::_,h=>by cases h
 |k::ks,[],h=>by cases h
 | k::ks,c::cs,h=>by
   simp only[oO,aK]at h;refine⟨?_,A7 ks cs h.2⟩;have h1:=h.1;cases k<;>cases c<;>simp only[e,dj,aL,beq_iff_eq,cV]at h1 ⊢<;>first|exact h1|trivial
def qj:∀(ks:List TK) (cs:List V) (B:List SV->Prop),oO T ks cs=ae->(∀row,B row)->jN T ks B
 |[],[],B,_,hB=>hB _
 |[],_::_,B,h,_=>by cases h
 |k::ks,[],B,h,_=>by cases h
 | k::ks,c::cs,B,h,hB=>by
   simp only[oO,aK]at h;have h1:=h.1;cases k with
   |int k=>exact fun n=>qj ks cs _ h.2 fun row=>hB _
   |bool=>exact fun n=>qj ks cs _ h.2 fun row=>hB _
   |str=>exact fun n=>qj ks cs _ h.2 fun row=>hB _
   |slice t=>exact fun n=>qj ks cs _ h.2 fun row=>hB _
   |_=>simp at h1
def N6 {t:TypeId}{x:Operand}(ho:o.op = .load t x)(hK:∀ s,K s=U r->K' (eS s))(h:bZ T C o s K=U r):bO T C' o (eS s) K':=by
 simp only[bZ,ho]at h;simp only[bO,ho]
 unfold GO at h;unfold rM;rw[bV];split at h
 ·rename_i cs hv;rw[hv];obtain⟨h1,h2⟩:=bj h;simp only[e]
  rw[cN];refine bG h1 (Kq hK ?_ h2);have:=oS 0 (T t).size cs;simp only[List.drop_zero]at this;rw[<-this,oT,bP]
 ·rename_i ob i off hv;rw[hv];simp only[e]
  split at h
  ·rename_i n cs hg;rw[jV hg];simp only
   cases i with
   |succ i=>cases h
   | zero=>
     simp only at h;refine G7 _ _ h fun s1 h1=>?_
     unfold GM at h1;unfold rL;rw[bV];split at h1
     ·rename_i ob1 i1 off1 hv1;rw[hv1];cases i1 with
      |succ i=>cases h1
      |zero=>exact N4 hK h1
     ·cases h1
  ·rename_i n g dd l hg;rw[jw hg];simp only
   obtain⟨h1,h2⟩:=bj h;simp only[aK,Bool.not_eq_true']at h1;obtain⟨y,hy,h3⟩:=oN h2;obtain⟨h4,h5⟩:=bj h3;simp only[aK,Bool.not_eq_true']at h4;have hrow:(l.map (aO dd g))[i]? = U (aO dd g y):=by rw[List.getElem?_map,hy];rfl
   have hlt:i<(l.map (aO dd g)).length:=nc hrow;unfold pU;split
   ·rename_i hk;rw[hk]at h1;cases h1.2
   ·refine bG h1.1 ⟨hlt,fun row hr=>?_⟩;rw[hrow]at hr;simp only[aF]at hr;subst hr;have hcs:eL (dm off (T t).size (cells dd g y))=((aO dd g y).drop off).take (T t).size:=by rw[oS,np]
    refine⟨⟨by rw[sg];exact dZ h4.1.1,by rw[<-hcs];exact A7 _ _ h4.1.2⟩,qj _ _ _ h4.1.2 fun row hrw=>?_⟩;rw[<-hcs]at hrw;subst hrw;rw[oT,iB];exact bG (by rw[h4.2];rfl) (Kq hK (bP _ _) h5)
  ·rename_i n g0 d0 l0 j cs hg;rw[i7 hg];simp only
   refine G5 _ _ h fun s1 h1=>?_
   unfold GN at h1;unfold rL;rw[bV];split at h1
   ·rename_i ob1 i1 off1 hv1;rw[hv1];exact N5 hK h1
   ·cases h1
  ·rename_i n g l k hg;rw[vO hg];simp only
   obtain⟨h1,h2⟩:=bj h;simp only[aK,Bool.not_eq_true']at h1;obtain⟨hki,h2⟩:=cR h2;have hki:=of_decide_eq_true hki;obtain⟨y,hy,h3⟩:=oN h2;obtain⟨h4,h5⟩:=bj h3;simp only[aK,Bool.not_eq_true']at h4;have hrow:(cn .spl g k l)[i]? = U (aO ag g y):=GY hki hy;have hlt:i<(cn .spl g k l).length:=nc hrow;unfold pU;split
   ·rename_i hk;rw[hk]at h1;cases h1.2
   ·refine bG h1.1 ⟨hlt,fun row hr=>?_⟩;rw[hrow]at hr;simp only[aF]at hr;subst hr;have hcs:eL (dm off (T t).size (cells ag g y))=((aO ag g y).drop off).take (T t).size:=by rw[oS,np]
    refine⟨⟨by rw[sg];exact dZ h4.1.1,by rw[<-hcs];exact A7 _ _ h4.1.2⟩,qj _ _ _ h4.1.2 fun row hrw=>?_⟩;rw[<-hcs]at hrw;subst hrw;rw[oT,iB];exact bG (by rw[h4.2];rfl) (Kq hK (bP _ _) h5)
  ·cases h
 ·cases h
def su (hK:∀ s,K s=U r->K' (eS s)){d:Option Tmp}:∀s,vN d K s=U r->kJ d K' (eS s):=fun s h=>Kq hK (bP d .sk) h
def A8 (d:Bool):∀(ks:List TK) (vs:List V),uL (eL vs) (eL (vE T d ks vs))
 |[],[]=>rfl
 |_::_,[]=>rfl
 |[],v::vs=>⟨.inl rfl,A8 d [] vs⟩
 | k::ks,v::vs=>by
   simp only[vE,eL]
   refine⟨?_,A8 d ks vs⟩;split
   ·split
    ·cases d
     ·exact .inr ⟨rfl,_,.inr rfl⟩
     ·exact .inr ⟨rfl,_,.inl rfl⟩
    ·exact .inl rfl
   ·exact .inl rfl
def N7 {t:TypeId}{x y:Operand}(ho:o.op = .store t x y)(hK:∀ s,K s=U r->K' (eS s))(h:bZ T C o s K=U r):bO T C' o (eS s) K':=by
 simp only[bZ,ho]at h;simp only[bO,ho]
 unfold GP at h;unfold uM;rw[bV,bV];split at h
 ·rename_i ob i off hv;rw[hv];simp only[e]
  rw[jT];split at h
  ·rename_i n cs hg;rw[jV hg];simp only
   cases i with
   |succ i=>cases h
   | zero=>
     simp only at h;obtain⟨h1,h2⟩:=bj h;simp only[aK]at h1;simp only[List.getElem?_cons_zero]
     rw[nu,cN,nr,cN];refine bG (by simp only[h1.1.1.1,h1.1.1.2,h1.1.2,Bool.true_or,ba]) (bG h1.2 ?_);rw[<-g9,oR hg (oL _ _ _ (by rw[eq_of_beq h1.1.1.2];exact dZ h1.2))]
     have hn:(cY s y).n=s.n:=by
      unfold cY;split
      ·split<;>rfl
      ·rfl
     rw[hn];exact su hK _ h2
  ·rename_i n g dd l hg;rw[jw hg];simp only
   obtain⟨h1,h2⟩:=bj h;simp only[aK]at h1;rw[nu,cN,nr,AJ];refine bG (by simp only[h1.1.1.1.1,h1.1.1.1.2,h1.1.1.2,h1.1.2,Bool.or_true,ba]) ?_;obtain⟨z,hz,h3⟩:=oN h2;obtain⟨q,rest,h4,h5⟩:=sq g _ _ h3;have hrow:(l.map (aO dd g))[i]? = U (aO dd g z):=by rw[List.getElem?_map,hz];rfl
   refine⟨nc hrow,fun row hr=>?_⟩;rw[hrow]at hr;simp only[aF]at hr;subst hr;refine⟨by rw[sg];exact dZ h1.2,_,A8 (T:=T) dd (flat T 4 t) _,?_⟩;cases rest with
   |cons a b=>cases h4
   | nil=>
     simp only[eL,cB,g9,np]at h5;rw[h5];have hset:(l.map (aO dd g)).set i (aO dd g q)=(l.set i q).map (aO dd g):=by rw[List.map_set]
     have hn:(cY s y).n=s.n:=by
      unfold cY;split
      ·split<;>rfl
      ·rfl
     have hst:eG (eS (cY s y)) ob (l.map (aO dd g)) i (aO dd g q)=eS ⟨s.n,(cY s y).al,sn g dd (cY s y).ob ob (l.set i q)⟩:=by
      simp only[eG,hset,eS,GH _ hg,hn]
     rw[hst];exact su hK _ h4
  ·rename_i n g0 d0 l0 j cs hg;rw[i7 hg];simp only
   obtain⟨h1,h6⟩:=bj h;obtain⟨h5,h2⟩:=cR h6;simp only[aK,aL]at h5;obtain⟨h5,h7⟩:=h5;subst h5;simp only[aK]at h1;simp only[lF h7]
   rw[nu,cN,nr,cN];refine bG (by simp only[h1.1.1.1,h1.1.1.2,h1.1.2,Bool.true_or,ba]) (bG h1.2 ?_);rw[<-g9,qi hg]
   have hn:(cY s y).n=s.n:=by
    unfold cY;split
    ·split<;>rfl
    ·rfl
   rw[hn];exact su hK _ h2
  ·cases h
  ·cases h
 ·cases h
end
end Go.TM
end
