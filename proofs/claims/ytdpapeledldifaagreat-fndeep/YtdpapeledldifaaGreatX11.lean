/- Part 12 of the proof of FnDeep; no condition. -/
import Derived.Test.YtdpapeledldifaaGreatX10
open Option renaming some -> U
open Decidable renaming decide -> aa
open Bool renaming true -> ad
open Bool renaming false -> ag
open Option renaming none -> aj
open Sum renaming inl -> an
open Sum renaming inr -> ao
open List renaming length -> au
open Int renaming toNat -> aH
open List renaming drop -> kZ
open List renaming take -> nY
set_option autoImplicit true
set_option relaxedAutoImplicit true
set_option linter.all false
section
namespace Go.TM
open Go.AM
section
variable {R:Type}{T:Nat->TI}{C:ni R}{C':zAy}{o:Oper}{s:TS}{K:TS->Option R}{K':St->Prop}{r:R}
def oC {ob:Nat}{n:Nat}{cs cs':List V}(hg:ba s.ob ob=U (.box n cs))(hl:cs'.length=cs.length):el (eS s) ob [eL cs] 0 (eL cs')=eS ⟨s.n,s.al,di s.ob ob cs'⟩:=by
 simp only[el,eS,FX s.ob hg hl]
def jG {ob:Nat}{n:Nat}{cs:List V}(hg:ba s.ob ob=U (.box n cs)):bz (eS s).ob ob=U ⟨n,cs.length,[eL cs],ad⟩:=by
 simp only[eS,kD,hg,Option.map_some,eO]
def jf {ob:Nat}{n:Nat}{g:GT}{d:Bool}{l:List g.Den}(hg:ba s.ob ob=U (.arr n g d l)):bz (eS s).ob ob=U ⟨n,g.sz,l.map (aM d g),ag⟩:=by
 simp only[eS,kD,hg,Option.map_some,eO]
def vz {ob:Nat}{n:Nat}{g:GT}{l:List g.Den}{k:Nat}(hg:ba s.ob ob=U (.spl n g l k)):bz (eS s).ob ob=U ⟨n,g.sz,cp .spl g k l,ag⟩:=by
 simp only[eS,kD,hg,Option.map_some,eO]
def iN {ob:Nat}{n:Nat}{g:GT}{d:DM}{l:List g.Den}{j:Nat}{cs:List V}(hg:ba s.ob ob=U (.opn n g d l j cs)):bz (eS s).ob ob=U ⟨n,g.sz,(cp d g j l).set j (eL cs),ad⟩:=by
 simp only[eS,kD,hg,Option.map_some,eO]
def ln {g:GT}{d:DM}{l:List g.Den}{j:Nat}{cs:List V}(h:j<l.length):((cp d g j l).set j (eL cs))[j]? = U (eL cs):=by
 rw[List.getElem?_set_self (by rw[rS];exact h)]
def p6 {ob:Nat}{n:Nat}{g:GT}{d:DM}{l:List g.Den}{j:Nat}{cs cs':List V}(hg:ba s.ob ob=U (.opn n g d l j cs)):el (eS s) ob ((cp d g j l).set j (eL cs)) j (eL cs')=eS ⟨s.n,s.al,dv s.ob ob cs'⟩:=by
 simp only[el,eS,FZ s.ob hg]
def Gf {g:GT}{l:List g.Den}{k i:Nat}{y:g.Den}(h:k<=i)(e:l[i]? = U y):(cp .spl g k l)[i]? = U (aM ag g y):=by
 have hi:=(List.getElem?_eq_some_iff.1 e).1;simp only[cp]
 rw[List.getElem?_append_right (by simp only[dG,cA];omega),List.getElem?_map,List.getElem?_drop];have:k+(i-((l.take k).map (aM ad g)).length)=i:=by simp only[dG,cA];omega
 rw[this,e];rfl
def Gg {ob i off d n:Nat}{g0:GT}{d0:DM}{l0:List g0.Den}{cs:List V}{g:GT}{dd:Bool}{l:List g.Den}{v:V}{K':St->Prop}(hg:ba s.ob ob=U (.opn n g0 d0 l0 i cs))(hi:i<l0.length)(hv:du cs off=v)(hev:e v = .own g.sz (l.map (aM dd g)))
  (h:aX (Nat.blt d 100000&&d != ob&&ble (off+1) cs.length)
    (match ba (dU ⟨s.n,s.al,dv s.ob ob (bA cs off [.u])⟩ d (.arr d g dd l)).ob ob with
    |some (.opn _ _ _ l1 j1 cs1)=>aX (ble (off+1) cs1.length) (af (aa (i=j1)&&aa (j1<l1.length)) (K ⟨s.n,(dU ⟨s.n,s.al,dv s.ob ob (bA cs off [.u])⟩ d (.arr d g dd l)).al,
      dv (dU ⟨s.n,s.al,dv s.ob ob (bA cs off [.u])⟩ d (.arr d g dd l)).ob ob (bA cs1 off [.ar d])⟩))
    |_=>aj)=U r) (hK:∀s,K s=U r->K' (eS s)):i_ ob i off d K' (eS s):=by
 obtain⟨h1,h2⟩:=bl h;simp only[aG]at h1;have hoff:off+1<=cs.length:=dQ h1.2;unfold i_;rw[iN hg];simp only[ln hi]
 rw[<-je,hv,hev];simp only
 refine bF (by simp only[h1.1.1,h1.1.2,h1.2,cF,bp]) ?_;have hw:wr (eL cs) off [SV.u]=eL (bA cs off [.u]):=by rw[gH];rfl
 rw[hw,p6 hg];have ha:=p3 (s:=⟨s.n,s.al,dv s.ob ob (bA cs off [.u])⟩) d (.arr d g dd l) rfl;simp only[eO]at ha;rw[ha];generalize hs1:dU ⟨s.n,s.al,dv s.ob ob (bA cs off [.u])⟩ d (.arr d g dd l)=s1 at h2;split at h2
 ·rename_i n1 g1 d1 l1 j1 cs1 hg1;obtain⟨h3,h4⟩:=bl h2;obtain⟨h5,h6⟩:=cL h4;simp only[aG,aI]at h5;obtain⟨h5,h7⟩:=h5;subst h5;rw[iN hg1];simp only[ln h7]
  refine bF (by simp only[cF,h3,bp]) ?_;have hw1:wr (eL cs1) off [SV.ar d]=eL (bA cs1 off [.ar d]):=by rw[gH];rfl
  rw[hw1,p6 hg1];have hn:s1.n=s.n:=by rw[<-hs1];rfl
  rw[hn];exact hK _ h6
 ·cases h2
def Gi {ob i off d:Nat}{K':St->Prop}(h:ve ob i off d K s=U r)(hK:∀ s,K s=U r->K' (eS s)):i_ ob i off d K' (eS s):=by
 unfold ve at h;split at h
 ·rename_i n g0 d0 l0 j cs hg;obtain⟨h5,h6⟩:=cL h;clear h;simp only[aG,aI]at h5;obtain⟨h5,h7⟩:=h5;subst h5;split at h6
  ·rename_i g dd l hv;exact Gg hg h7 hv rfl h6 hK
  ·rename_i g hv;exact Gg (l:=[]) (dd:=ad) hg h7 hv rfl h6 hK
  ·rename_i hn1 hn2;unfold i_;rw[iN hg];simp only[ln h7]
   rw[<-je];rcases At (du cs off)with⟨g,dd,l,hv⟩|⟨g,hv⟩|hv
   ·exact absurd hv (hn1 _ _ _)
   ·exact absurd hv (hn2 _)
   ·split
    ·rename_i hq;exact absurd hq (hv _ _)
    ·exact hK _ h6
 ·cases h
def Gj {ob i d:Nat}:∀(n j:Nat) {K:TS->Option R} {K':St->Prop} {s:TS},Am ob i d n j K s=U r->(∀s,K s=U r->K' (eS s))->mS ob i d n j K' (eS s)
 |0,j,K,K',s,h,hK=>hK _ h
 |n+1,j,K,K',s,h,hK=>Gi h fun s1 h1=>Gj n (j+1) h1 hK
def Gk {ob off d n:Nat}{cs:List V}{g:GT}{dd:Bool}{l:List g.Den}{v:V}{K':St->Prop}(hg:ba s.ob ob=U (.box n cs))(hv:du cs off=v)(hev:e v = .own g.sz (l.map (aM dd g)))
  (h:aX (Nat.blt d 100000&&d != ob&&ble (off+1) cs.length)
    (match ba (dU ⟨s.n,s.al,di s.ob ob (bA cs off [.u])⟩ d (.arr d g dd l)).ob ob with
    |some (.box _ cs1)=>aX (ble (off+1) cs1.length) (K ⟨s.n,(dU ⟨s.n,s.al,di s.ob ob (bA cs off [.u])⟩ d (.arr d g dd l)).al,
      di (dU ⟨s.n,s.al,di s.ob ob (bA cs off [.u])⟩ d (.arr d g dd l)).ob ob (bA cs1 off [.ar d])⟩)
    |_=>aj)=U r) (hK:∀s,K s=U r->K' (eS s)):i_ ob 0 off d K' (eS s):=by
 obtain⟨h1,h2⟩:=bl h;simp only[aG]at h1;have hoff:off+1<=cs.length:=dQ h1.2;unfold i_;rw[jG hg];simp only[List.getElem?_cons_zero]
 rw[<-je,hv,hev];simp only
 refine bF (by simp only[h1.1.1,h1.1.2,h1.2,cF,bp]) ?_;have hw:wr (eL cs) off [SV.u]=eL (bA cs off [.u]):=by rw[gH];rfl
 have hlen:(bA cs off [V.u]).length=cs.length:=ov _ _ _ (by simpa using hoff);rw[hw,oC hg hlen];have ha:=p3 (s:=⟨s.n,s.al,di s.ob ob (bA cs off [.u])⟩) d (.arr d g dd l) rfl;simp only[eO]at ha;rw[ha];generalize hs1:dU ⟨s.n,s.al,di s.ob ob (bA cs off [.u])⟩ d (.arr d g dd l)=s1 at h2;split at h2
 ·rename_i n1 cs1 hg1;obtain⟨h3,h4⟩:=bl h2;rw[jG hg1];simp only[List.getElem?_cons_zero]
  refine bF (by simp only[cF,h3,bp]) ?_;have hw1:wr (eL cs1) off [SV.ar d]=eL (bA cs1 off [.ar d]):=by rw[gH];rfl
  have hlen1:(bA cs1 off [V.ar d]).length=cs1.length:=ov _ _ _ (by simpa using dQ h3);rw[hw1,oC hg1 hlen1];have hn:s1.n=s.n:=by rw[<-hs1];rfl
  rw[hn];exact hK _ h4
 ·cases h2
def M_ {ob off d:Nat}{K':St->Prop}(h:Aj ob off d K s=U r)(hK:∀ s,K s=U r->K' (eS s)):i_ ob 0 off d K' (eS s):=by
 unfold Aj at h;split at h
 ·rename_i n cs hg;split at h
  ·rename_i g dd l hv;exact Gk hg hv rfl h hK
  ·rename_i g hv;exact Gk (l:=[]) (dd:=ad) hg hv rfl h hK
  ·rename_i hn1 hn2;unfold i_;rw[jG hg];simp only[List.getElem?_cons_zero]
   rw[<-je];rcases At (du cs off)with⟨g,dd,l,hv⟩|⟨g,hv⟩|hv
   ·exact absurd hv (hn1 _ _ _)
   ·exact absurd hv (hn2 _)
   ·split
    ·rename_i hq;exact absurd hq (hv _ _)
    ·exact hK _ h
 ·cases h
def Gl {ob d:Nat}:∀(n j:Nat) {K:TS->Option R} {K':St->Prop} {s:TS},Ak ob d n j K s=U r->(∀s,K s=U r->K' (eS s))->mS ob 0 d n j K' (eS s)
 |0,j,K,K',s,h,hK=>hK _ h
 |n+1,j,K,K',s,h,hK=>M_ h fun s1 h1=>Gl n (j+1) h1 hK
def oD (off n:Nat)(l:List V):eL (c_ off n l)=((eL l).drop off).take n:=by
 simp only[c_,rQ,List.map_take,List.map_drop]
def oE (t:Nat)(cs:List V):AM.valOf T t (eL cs)=e (dh T t cs):=by
 unfold AM.valOf dh;cases (T t).kind<;>first|rfl|exact(je cs 0).symm
def Na {t ob off:Nat}{d:Option Tmp}(hK:∀ s,K s=U r->K' (eS s))(h:Al T t ob off d K s=U r):mT T t ob 0 off d K' (eS s):=by
 unfold Al at h;split at h
 ·rename_i n cs hg;obtain⟨h1,h2⟩:=bl h;unfold mT;rw[jG hg];simp only[List.getElem?_cons_zero]
  rw[<-oD,oE,im,cF];exact bF h1 (Kq hK (bP _ _) h2)
 ·cases h
def Nb {t ob i off:Nat}{d:Option Tmp}(hK:∀ s,K s=U r->K' (eS s))(h:An T t ob i off d K s=U r):mT T t ob i off d K' (eS s):=by
 unfold An at h;split at h
 ·rename_i n g0 d0 l0 j cs hg;obtain⟨h5,h6⟩:=cL h;simp only[aG,aI]at h5;obtain⟨h5,h7⟩:=h5;subst h5;obtain⟨h1,h2⟩:=bl h6;unfold mT;rw[iN hg];simp only[ln h7]
  rw[<-oD,oE,im,cF];exact bF h1 (Kq hK (bP _ _) h2)
 ·cases h
def Au:∀(ks:List TK) (cs:List V),oz T ks cs=ad->lO T ks (eL cs)
 |[],[],_=>rfl
 |[],_::_,h=>by cases h
 |k::ks,[],h=>by cases h
 | k::ks,c::cs,h=>by
   simp only[oz,aG]at h;refine⟨?_,Au ks cs h.2⟩;have h1:=h.1;cases k<;>cases c<;>simp only[e,c9,aI,beq_iff_eq,cS]at h1 ⊢<;>first|exact h1|trivial
def p7:∀(ks:List TK) (cs:List V) (B:List SV->Prop),oz T ks cs=ad->(∀row,B row)->jw T ks B
 |[],[],B,_,hB=>hB _
 |[],_::_,B,h,_=>by cases h
 |k::ks,[],B,h,_=>by cases h
 | k::ks,c::cs,B,h,hB=>by
   simp only[oz,aG]at h;have h1:=h.1;cases k with
   |int k=>exact fun n=>p7 ks cs _ h.2 fun row=>hB _
   |bool=>exact fun n=>p7 ks cs _ h.2 fun row=>hB _
   |str=>exact fun n=>p7 ks cs _ h.2 fun row=>hB _
   |slice t=>exact fun n=>p7 ks cs _ h.2 fun row=>hB _
   |_=>simp at h1
def Nc {t:TypeId}{x:Operand}(ho:o.op = .load t x)(hK:∀ s,K s=U r->K' (eS s))(h:b9 T C o s K=U r):bO T C' o (eS s) K':=by
 simp only[b9,ho]at h;simp only[bO,ho]
 unfold F5 at h;unfold ry;rw[bW];split at h
 ·rename_i cs hv;rw[hv];obtain⟨h1,h2⟩:=bl h;simp only[e]
  rw[cF];refine bF h1 (Kq hK ?_ h2);have:=oD 0 (T t).size cs;simp only[List.drop_zero]at this;rw[<-this,oE,bP]
 ·rename_i ob i off hv;rw[hv];simp only[e]
  split at h
  ·rename_i n cs hg;rw[jG hg];simp only
   cases i with
   |succ i=>cases h
   | zero=>
     simp only at h;refine Gl _ _ h fun s1 h1=>?_
     unfold F3 at h1;unfold rv;rw[bW];split at h1
     ·rename_i ob1 i1 off1 hv1;rw[hv1];cases i1 with
      |succ i=>cases h1
      |zero=>exact Na hK h1
     ·cases h1
  ·rename_i n g dd l hg;rw[jf hg];simp only
   obtain⟨h1,h2⟩:=bl h;simp only[aG,Bool.not_eq_true']at h1;obtain⟨y,hy,h3⟩:=oy h2;obtain⟨h4,h5⟩:=bl h3;simp only[aG,Bool.not_eq_true']at h4;have hrow:(l.map (aM dd g))[i]? = U (aM dd g y):=by rw[List.getElem?_map,hy];rfl
   have hlt:i<(l.map (aM dd g)).length:=mX hrow;unfold pH;split
   ·rename_i hk;rw[hk]at h1;cases h1.2
   ·refine bF h1.1 ⟨hlt,fun row hr=>?_⟩;rw[hrow]at hr;simp only[aK]at hr;subst hr;have hcs:eL (c_ off (T t).size (cells dd g y))=((aM dd g y).drop off).take (T t).size:=by rw[oD,nc]
    refine⟨⟨by rw[rR];exact dQ h4.1.1,by rw[<-hcs];exact Au _ _ h4.1.2⟩,p7 _ _ _ h4.1.2 fun row hrw=>?_⟩;rw[<-hcs]at hrw;subst hrw;rw[oE,im];exact bF (by rw[h4.2];rfl) (Kq hK (bP _ _) h5)
  ·rename_i n g0 d0 l0 j cs hg;rw[iN hg];simp only
   refine Gj _ _ h fun s1 h1=>?_
   unfold F4 at h1;unfold rv;rw[bW];split at h1
   ·rename_i ob1 i1 off1 hv1;rw[hv1];exact Nb hK h1
   ·cases h1
  ·rename_i n g l k hg;rw[vz hg];simp only
   obtain⟨h1,h2⟩:=bl h;simp only[aG,Bool.not_eq_true']at h1;obtain⟨hki,h2⟩:=cL h2;have hki:=of_decide_eq_true hki;obtain⟨y,hy,h3⟩:=oy h2;obtain⟨h4,h5⟩:=bl h3;simp only[aG,Bool.not_eq_true']at h4;have hrow:(cp .spl g k l)[i]? = U (aM ag g y):=Gf hki hy;have hlt:i<(cp .spl g k l).length:=mX hrow;unfold pH;split
   ·rename_i hk;rw[hk]at h1;cases h1.2
   ·refine bF h1.1 ⟨hlt,fun row hr=>?_⟩;rw[hrow]at hr;simp only[aK]at hr;subst hr;have hcs:eL (c_ off (T t).size (cells ag g y))=((aM ag g y).drop off).take (T t).size:=by rw[oD,nc]
    refine⟨⟨by rw[rR];exact dQ h4.1.1,by rw[<-hcs];exact Au _ _ h4.1.2⟩,p7 _ _ _ h4.1.2 fun row hrw=>?_⟩;rw[<-hcs]at hrw;subst hrw;rw[oE,im];exact bF (by rw[h4.2];rfl) (Kq hK (bP _ _) h5)
  ·cases h
 ·cases h
def rZ (hK:∀ s,K s=U r->K' (eS s)){d:Option Tmp}:∀s,vw d K s=U r->kt d K' (eS s):=fun s h=>Kq hK (bP d .sk) h
def Av (d:Bool):∀(ks:List TK) (vs:List V),uv (eL vs) (eL (vh T d ks vs))
 |[],[]=>rfl
 |_::_,[]=>rfl
 |[],v::vs=>⟨.inl rfl,Av d [] vs⟩
 | k::ks,v::vs=>by
   simp only[vh,eL]
   refine⟨?_,Av d ks vs⟩;split
   ·split
    ·cases d
     ·exact .inr ⟨rfl,_,.inr rfl⟩
     ·exact .inr ⟨rfl,_,.inl rfl⟩
    ·exact .inl rfl
   ·exact .inl rfl
def Nd {t:TypeId}{x y:Operand}(ho:o.op = .store t x y)(hK:∀ s,K s=U r->K' (eS s))(h:b9 T C o s K=U r):bO T C' o (eS s) K':=by
 simp only[b9,ho]at h;simp only[bO,ho]
 unfold F6 at h;unfold uw;rw[bW,bW];split at h
 ·rename_i ob i off hv;rw[hv];simp only[e]
  rw[jE];split at h
  ·rename_i n cs hg;rw[jG hg];simp only
   cases i with
   |succ i=>cases h
   | zero=>
     simp only at h;obtain⟨h1,h2⟩:=bl h;simp only[aG]at h1;simp only[List.getElem?_cons_zero]
     rw[ng,cF,nf,cF];refine bF (by simp only[h1.1.1.1,h1.1.1.2,h1.1.2,Bool.true_or,bp]) (bF h1.2 ?_);rw[<-gH,oC hg (ov _ _ _ (by rw[eq_of_beq h1.1.1.2];exact dQ h1.2))]
     have hn:(cU s y).n=s.n:=by
      unfold cU;split
      ·split<;>rfl
      ·rfl
     rw[hn];exact rZ hK _ h2
  ·rename_i n g dd l hg;rw[jf hg];simp only
   obtain⟨h1,h2⟩:=bl h;simp only[aG]at h1;rw[ng,cF,nf,Aa];refine bF (by simp only[h1.1.1.1.1,h1.1.1.1.2,h1.1.1.2,h1.1.2,Bool.or_true,bp]) ?_;obtain⟨z,hz,h3⟩:=oy h2;obtain⟨q,rest,h4,h5⟩:=rX g _ _ h3;have hrow:(l.map (aM dd g))[i]? = U (aM dd g z):=by rw[List.getElem?_map,hz];rfl
   refine⟨mX hrow,fun row hr=>?_⟩;rw[hrow]at hr;simp only[aK]at hr;subst hr;refine⟨by rw[rR];exact dQ h1.2,_,Av (T:=T) dd (flat T 4 t) _,?_⟩;cases rest with
   |cons a b=>cases h4
   | nil=>
     simp only[eL,cN,gH,nc]at h5;rw[h5];have hset:(l.map (aM dd g)).set i (aM dd g q)=(l.set i q).map (aM dd g):=by rw[List.map_set]
     have hn:(cU s y).n=s.n:=by
      unfold cU;split
      ·split<;>rfl
      ·rfl
     have hst:el (eS (cU s y)) ob (l.map (aM dd g)) i (aM dd g q)=eS ⟨s.n,(cU s y).al,rV g dd (cU s y).ob ob (l.set i q)⟩:=by
      simp only[el,hset,eS,FY _ hg,hn]
     rw[hst];exact rZ hK _ h4
  ·rename_i n g0 d0 l0 j cs hg;rw[iN hg];simp only
   obtain⟨h1,h6⟩:=bl h;obtain⟨h5,h2⟩:=cL h6;simp only[aG,aI]at h5;obtain⟨h5,h7⟩:=h5;subst h5;simp only[aG]at h1;simp only[ln h7]
   rw[ng,cF,nf,cF];refine bF (by simp only[h1.1.1.1,h1.1.1.2,h1.1.2,Bool.true_or,bp]) (bF h1.2 ?_);rw[<-gH,p6 hg]
   have hn:(cU s y).n=s.n:=by
    unfold cU;split
    ·split<;>rfl
    ·rfl
   rw[hn];exact rZ hK _ h2
  ·cases h
  ·cases h
 ·cases h
end
end Go.TM
end
