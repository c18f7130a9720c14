/- Part 22 of the proof of FnTidy; no condition. -/
import Derived.Test.YtdpapeledldifaaGreatX20
set_option autoImplicit true
set_option relaxedAutoImplicit true
set_option linter.all false
section
namespace Go.TM
open Go.AM
section
variable {P:Program}{R:Type}{T:Nat→TI}{s:TS}{K:TS→Option R}{K':St→Prop}{r:R}
def zCE:∀(l:List OPat) (obs:List TO) (x:(zBC l).Den),eqNs (zCz obs) (zCY l)=true→wkL (eL (ofOs obs)) (eL (encP (zBC l) x))→wkObs (eOs obs) (eOs (mkO l (encP (zBC l) x)))
 |[],[],x,_,_=>rfl
 |[],_::_,x,h,_=>by simp[zCz,zCY,eqNs]at h
 |_::_,[],x,h,_=>by simp[zCz,zCY,eqNs]at h
 | o::l,t::obs,x,hn,h=>by
   simp only[zCz,zCY,eqNs,zBa,beq_iff_eq]at hn;simp only[zBC,encP,ofOs,eL]at h ⊢;generalize hx:fstD o.pat.cst (zBC l).cst o.pat.dflt x=x1 at h ⊢;generalize hy:sndD o.pat.cst (zBC l).cst (zBC l).dflt x=y1 at h ⊢;cases o with
   | box n p=>
     have h':wkL (e (ofO (some t))::eL (ofOs obs)) (SV.agg (eL (encP p x1))::eL (encP (zBC l) y1)):=h;obtain⟨h1,h2⟩:=zCr h';have h3:=zCE l obs y1 hn.2 h2;cases t with
     |arr m t d l=>simp[ofO,e,wk]at h1
     |opn m t d l i cs=>simp[ofO,e,wk]at h1
     |spl m t l k=>simp[ofO,e,wk]at h1
     | box m cs=>
       have h1:wkL (eL cs) (eL (encP p x1)):=h1;have hl:=zHj h1;simp only[zAN]at hl;exact⟨hn.1,hl,rfl,⟨h1,rfl⟩,h3⟩
   | arr n g d=>
     have h':wkL (e (ofO (some t))::eL (ofOs obs)) (SV.own g.sz ((x1:List g.Den).map (encC d g))::eL (encP (zBC l) y1)):=h;obtain⟨h1,h2⟩:=zCr h';have h3:=zCE l obs y1 hn.2 h2;cases t with
     |box m cs=>simp[ofO,e,wk]at h1
     |opn m g' d' l' i' cs'=>simp[ofO,e,wk]at h1
     |spl m g' l' k'=>simp[ofO,e,wk]at h1
     | arr m g' d' l' =>
       simp only[ofO,e,wk,SV.own.injEq]at h1;have key:wkRows (l'.map (encC d' g')) ((x1:List g.Den).map (encC d g)):=by rw[h1.2];exact zBk _
       exact⟨hn.1,h1.1,rfl,key,h3⟩
   | opn n g d p=>
     obtain⟨y,i,z,hv,hmk⟩:=zWf n g d p x1
     have h':wkL (e (ofO (some t))::eL (ofOs obs)) (eL (encP (OPat.opn n g d p).pat x1)++eL (encP (zBC l) y1)):=by
      rw[←zBe];exact h
     rw[hv]at h';obtain⟨h1,h2⟩:=zCr h';have h3:=zCE l obs y1 hn.2 h2;cases t with
     |box m cs=>simp[ofO,e,wk]at h1
     |arr m g' d' l'=>simp[ofO,e,wk]at h1
     |spl m g' l' k'=>simp[ofO,e,eL,wk,wkL]at h1
     | opn m g' d' l' i' cs' =>
       simp only[ofO,e,eL,wk,wkL,SV.own.injEq,SV.p.injEq]at h1;obtain⟨⟨h6,h7⟩,⟨_,h8,hc⟩,h9,_⟩:=h1;rw[hv];refine⟨hn.1,h6,rfl,?_,h3⟩;show wkRows ((encM d' g' i' l').set i' (eL cs')) ((encM d g i y).set i (eL (encP p z)));subst h8;rw[zOO hc h7];exact zFo h9 _ _
   | spl n g=>
     obtain⟨y,i,hv,hmk⟩:=zWJ n g x1
     have h':wkL (e (ofO (some t))::eL (ofOs obs)) (eL (encP (OPat.spl n g).pat x1)++eL (encP (zBC l) y1)):=by
      rw[←zBe];exact h
     rw[hv]at h';obtain⟨h1,h2⟩:=zCr h';have h3:=zCE l obs y1 hn.2 h2;cases t with
     |box m cs=>simp[ofO,e,wk]at h1
     |arr m g' d' l'=>simp[ofO,e,wk]at h1
     |opn m g' d' l' i' cs'=>simp[ofO,e,eL,wk,wkL]at h1
     | spl m g' l' k' =>
       simp only[ofO,e,eL,wk,wkL,SV.own.injEq,SV.p.injEq]at h1;obtain⟨⟨h6,h7⟩,⟨_,h8,_⟩,_⟩:=h1;rw[hv];refine⟨hn.1,h6,rfl,?_,h3⟩;show wkRows (encM .spl g' k' l') (encM .spl g i y);subst h8;rw[zOO (d:=.spl) (d':=.spl) rfl h7];exact zBk _
def zXq {rest:List V}{q:Pat}:∀(l:List (Nat×Pat)) (args:List V) (x:(zBU l q).Den),okA l=true→args.length=l.length→wkL (eL (args++rest)) (eL (encP (zBU l q) x)) →
  wkL (eL args) (eL (zRo l (encP (zBU l q) x)))∧∃y:q.Den,zNd l (encP (zBU l q) x)=encP q y∧wkL (eL rest) (eL (encP q y))
 |[],[],x,_,_,h=>⟨rfl,x,rfl,h⟩
 |[],_::_,x,_,hl,_=>by simp at hl
 |_::_,[],x,_,hl,_=>by simp at hl
 | p::l,a::args,x,ho,hl,h=>by
   simp only[okA,zBa]at ho;simp only[zBU,encP]at h ⊢;generalize hx:fstD p.2.cst (zBU l q).cst p.2.dflt x=x1 at h ⊢;generalize hy:sndD p.2.cst (zBU l q).cst (zBU l q).dflt x=y1 at h ⊢;obtain⟨v,hv⟩:=zRw p.2 (fun q q' hq=>by rw[hq]at ho;cases ho.1) (fun hq=>by rw[hq]at ho;cases ho.1) x1;rw[hv]at h ⊢;simp only[zCa,zNa,eL]at h ⊢;obtain⟨h1,h2⟩:=zCr h;obtain⟨h3,y,h4,h5⟩:=zXq l args y1 ho.2 (by simpa using hl) h2;exact⟨⟨h1,h3⟩,y,h4,h5⟩
def zKT {p:SPat}{args:List V}{obs:List TO}{K:p.Den→Option R}(h:decIn p args obs K=some r) :
  ∃x,K x=some r∧wkL (eL args) (eL (zLe p x))∧wkObs (eOs obs) (eOs (zUj p x)):=by
 obtain⟨h0,h1⟩:=zAF h;simp only[zBa]at h0;obtain⟨x,cs,rest,h2,h3,h4,_⟩:=zFk p.pat true _ _ h1;obtain⟨rfl,h5⟩:=zEg h2;rw[zAn]at h3;subst h3;obtain⟨h6,y,h7,h8⟩:=zXq p.al args x h0.1.1 (eq_of_beq h0.1.2) h4;refine⟨x,h5,h6,?_⟩;show wkObs (eOs obs) (eOs (mkO p.ob (zNd p.al (encP (zBU p.al (zBC p.ob)) x))));rw[h7];exact zCE p.ob obs y h0.2 h8
def zLA {en:TEnt}{y:en.Y}{K:V→List TO→Option R}(h:resGo en y K=some r):∃v obs,en.res y=some (v,obs)∧K v obs=some r:=by
 unfold resGo at h;split at h
 ·exact⟨_,_,by assumption,h⟩
 ·cases h
def zLT:∀a b:List TO,eOs (a++b)=eOs a++eOs b
 |[],_=>rfl
 |x::a,b=>by simp only[zCa,eOs,zLT a b]
def zLM:∀(ns:List Nat) (s:TS),(zEx ns s).n=s.n
 |[],_=>rfl
 |o::ns,s=>by simp only[zEx,zLM ns];rfl
def zXI {ns:List Nat}{d:Option Tmp}{v:V}{obs:List TO}(hK:∀ s,K s=some r→K' (eS s))(h:goT ns d K s v obs=some r):goOn ns d K' (eS s) (e v) (eOs obs):=by
 obtain⟨h1,h2⟩:=zAF h;unfold goOn;refine zAQ ?_ ?_
 ·unfold zUE;simp only[zXm,zBa]at h1;rw[zNu,zUB,zIA _ _ h1.1.2];simp only[h1.1.1.1,h1.1.1.2,h1.1.2,h1.2,zBs]
 ·have he:zFn (outN (zDZ d) 100000 ns) (zFN 100000 ns) (eS s) (eOs obs) (e v) d=eS (zXv (outN (zDZ d) 100000 ns) (zFN 100000 ns) s obs v d):=by
   unfold zFn zXv;rw[ren_e,zNu]
   have h3:(⟨(eS s).env,zFY ((zFN 100000 ns).map (outN (zDZ d) 100000 ns)) (eS s).ob⟩:St)=eS ⟨s.n,s.al,zUf ((zFN 100000 ns).map (outN (zDZ d) 100000 ns)) s.ob⟩:=by
    simp only[eS,zWX]
   rw[h3,zLN,←zAR];congr 1;simp only[eS,zRW,zLT,zLM]
  rw[he];exact hK _ h2
def zQg {en:TEnt}{ns:List Nat}{xs:List Operand}{caps:List V}{d:Option Tmp}(hK:∀ s,K s=some r→K' (eS s))(h:zXk en ns xs caps d K s=some r):callW en.W ns xs (eL caps) d K' (eS s):=by
 unfold zXk at h;unfold callW;split at h
 ·rename_i obs hobs;have hs:zCR ns (eS s).ob=some (eOs obs):=zWP _ _ _ hobs;rw[hs];simp only
  obtain⟨h1,h2⟩:=zAF h;have h1':=h1;simp only[zBa]at h1';rw[zIt,←zBe,zDq,zIA _ _ h1'.1.2,zDh];refine zAQ (by simp only[h1'.1.1.1,h1'.1.1.2,h1'.2,zBs]) ?_;obtain⟨x,h3,h4,h5⟩:=zKT h2;obtain⟨y,h6,h7⟩:=zLX h3;obtain⟨v,obs',h8,h9⟩:=zLA h7;rw[zJj,zRW];exact⟨x,y,v,obs',h4,h5,h6,h8,zXI hK h9⟩
 ·cases h
def zOZ {en:TEnt}{ns:List Nat}{n:Nat}{f:Operand}{xs:List Operand}{d:Option Tmp}(hK:∀ s,K s=some r→K' (eS s))(h:zSE en ns n f xs d K s=some r):zUF en.W ns n f xs d K' (eS s):=by
 unfold zSE at h;unfold zUF;rw[zAr];split at h
 ·rename_i n' caps hv;rw[hv];obtain⟨h1,h2⟩:=zAF h;exact zAQ h1 (zQg hK h2)
 ·cases h
def zHS {Q:St→Prop}:∀(l:List Nat) {s:TS},(∀s,K s=some r→Q (eS s))→zOH l K s=some r→zQT l Q (eS s)
 |[],s,hK,h=>hK _ h
 | o::l,s,hK,h=>by
   unfold zOH zIV at h;unfold zQT zXU;split at h
   ·rename_i n g d l' hg;rw[zBP hg];refine⟨rfl,?_⟩;have:=zHS l hK h;simp only[zBp]
    simp only[eS]at this ⊢;rw[zPU,show SV.sl g.sz (l'.map (encC false g))=e (.sl g l')from rfl,zWG,zFx];exact this
   ·cases h
def zQh {tbl:Nat→Option TEnt}(htb:TbOk P tbl):zES (zXl tbl) (CallV P):=by
 intro R f xs d s K K' r hK h;unfold zXl at h;split at h
 ·rename_i n caps hv;split at h
  ·rename_i en hen;obtain⟨hfid,h⟩:=zAF h;have hfid:=eq_of_beq hfid;obtain⟨k,hen⟩:=zUl hen;have hok:=htb _ _ hen;rw[hfid]at hok;refine⟨tbOne n (en.ent (locsT en.ps (evTL (zIT s xs) xs++caps) (zIT s xs).ob)),zQk.ins zQk.nil hok,?_⟩;unfold zSK callT;rw[zAr,hv];simp only[e]
   have ht:∀e:Ent,tbOne n e n=some e:=fun e=>by simp only[tbOne,ins,beq_self_eq_true,cond_true]
   rw[ht];simp only[TEnt.ent]
   split at h
   ·rename_i hp;rw[hp];simp only
    rw[zIt,←zBe];obtain⟨x,h3,h4,h5⟩:=zKT h;obtain⟨y,h6,h7⟩:=zLX h3;obtain⟨v,obs',h8,h9⟩:=zLA h7;obtain⟨h10,h11⟩:=zAF h9;refine⟨x,y,v,obs',?_,h5,h6,h8,?_⟩
    ·show wkL (brwL (eOs s.ob) _) _;rw[zUG];exact h4
    ·unfold goFlat;rw[zAR];exact zAQ (zWt _ h10) (hK _ h11)
   ·rename_i hp;rw[hp];simp only
    rw[zTo];unfold callET at h;unfold callE;split at h
    ·rename_i ns hns;rw[zIt,←zBe];have hns':locsT en.ps (evTL (zIT s xs) xs++caps) (zIT s xs).ob=some ns:=hns;rw[hns'];simp only
     rw[zXp];exact zHS _ (fun s h=>zOZ hK h) h
    ·cases h
  ·cases h
 ·cases h
end
def dropOwnV:V→V
 |.own _ _ _=>.u
 |.emp _=>.u
 |v=>v
def zEh:List V→List V
 |[]=>[]
 |x::l=>dropOwnV x::zEh l
def zGf:∀l:List V,zCd (eL l)=eL (zEh l)
 |[]=>rfl
 | x::l=>by
   simp only[eL,zCd,zEh,zGf l]
   congr 1;cases x<;>rfl
section
variable {R:Type}
def zOA (T:Nat→TI)(a t:Nat)(s:TS)(K:TS→Option R):Option R:=match zBx s a with
 | .p o i off=>match getT s.ob o with
   | some (.box _ cs)=>(match i with
     | 0=>chkO ((T t).known&&ble (off+(T t).size) cs.length) (match zBG (valV T t (zAW off (T t).size cs))with
       |true=>chkO (zAf T t&&zEP (zAW off (T t).size cs)) (K (setT ⟨s.n,s.al,zAh s.ob o (wrV cs off (zEh (zAW off (T t).size cs)))⟩ a (valV T t (zAW off (T t).size cs))))
       |false=>K (setT s a (valV T t (zAW off (T t).size cs))))
     |_+1=>none)
   |_=>none
 |_=>none
def outT (xs:List Operand)(s:TS)(K:V→TS→Option R):Option R:=match xs with
 |[x]=>K (evT s x) (zBB s x)
 |xs=>K (.tup (zKi s xs)) (zGV s xs)
def resT (T:Nat→TI)(rs:List ResultVar)(s:TS)(K:V→TS→Option R):Option R:=match rs with
 |[]=>outT [] s K
 |[.tmp a]=>outT [.tmp a] s K
 |[.tmp a,.tmp b]=>outT [.tmp a,.tmp b] s K
 |[.tmp a,.tmp b,.tmp c]=>outT [.tmp a,.tmp b,.tmp c] s K
 |[.cell a t]=>zOA T a t s fun s=>outT [.tmp a] s K
 |[.cell a t,.tmp b]=>chkO (a != b) (zOA T a t s fun s=>outT [.tmp a,.tmp b] s K)
 |_=>none
end
def resF (T:Nat→TI)(rs:List ResultVar)(N:Nat)(out:SPat)(ns:List Nat)(y:out.Den):Option (V×List TO) :=
 resT T rs (encS N out y) fun v s=>match selT ns s.ob with
  |some obs=>some (v,obs)
  |none=>none
def retT (N:Nat)(out:SPat):AX→TS→Option out.Den
 |.normal,s=>zId N out some s
 |.ret,s=>zId N out some s
 |.exit _,_=>none
noncomputable def funT (T:Nat→TI)(tbl:Nat→Option TEnt)(pl:Nat→List Nat×Plan)(N:Nat)(iv:Nat→Option SPat)(c:Code)(inS out:SPat)(x:inS.Den):Option out.Den :=
 tev T (zXl tbl) pl N iv c out.Den (retT N out) (encS N inS x)
section
variable {R:Type}{T:Nat→TI}{s:TS}{r:R}
def zHL {a t:Nat}{K:TS→Option R}{K':St→Prop}(hK:∀ s,K s=some r→K' (eS s))(h:zOA T a t s K=some r):zGb T t (lkp (eS s).env a) (some a) (eS s) K':=by
 unfold zOA at h;unfold zGb;rw[zCp];split at h
 ·rename_i o i off hv;rw[hv];simp only[e]
  split at h
  ·rename_i n cs hg;rw[zBT hg];simp only
   cases i with
   |succ i=>cases h
   | zero=>
     simp only at h;obtain⟨h1,h2⟩:=zAF h;simp only[zBa]at h1;have hoff:off+(T t).size≤cs.length:=zBY h1.2;refine⟨h1.1,by simp,?_⟩;rw[zUd];refine⟨by rw[zAN];exact hoff,?_⟩;rw[←zCq,zJC]
     have hnotown:(∀k rows,e (valV T t (zAW off (T t).size cs)) ≠ .own k rows)∨zAf T t=false:=by
      cases hs:zAf T t with
      |false=>exact .inr rfl
      | true=>
        refine .inl fun k rows hq=>?_
        unfold valV at hq;unfold zAf at hs;split at hq
        ·simp[e]at hq
        ·rename_i hne;split at hs
         ·rename_i fs hfs;exact hne fs hfs
         ·cases hs
     cases ho:zBG (valV T t (zAW off (T t).size cs))with
     | false=>
       rw[ho]at h2;simp only at h2;have hne:=e_ne_own ho;split
       ·rename_i heq;exact absurd heq (hne _ _)
       ·rw[zBR,ho];simp only[zFt,if_false]
        have:=hK _ h2;rw[←zCv]at this;exact this
     | true=>
       rw[ho]at h2;simp only at h2;obtain⟨h3,h4⟩:=zAF h2;simp only[zBa]at h3
       have hst:valV T t (zAW off (T t).size cs) = .agg (zAW off (T t).size cs):=by
        unfold valV;have hs:=h3.1;unfold zAf at hs;split at hs
        ·rename_i hk;rw[hk]
        ·cases hs
       rw[hst]at h4 ho ⊢;simp only[e]
       have ho':zAg (SV.agg (eL (zAW off (T t).size cs)))=true:=by
        have:=zBR (.agg (zAW off (T t).size cs));rw[ho]at this;exact this
       rw[ho'];simp only[if_true]
       refine⟨h3.1,by show zCG (eL _)=true;rw[zEI];exact h3.2,?_⟩;have:=hK _ h4;rw[←zCv]at this
       have hlen:(wrV cs off (zEh (zAW off (T t).size cs))).length=cs.length:=by
        refine zCk _ _ _ ?_
        have:(zEh (zAW off (T t).size cs)).length≤(T t).size:=by
         rw[←zAN,←zGf,zCc,zAN];simp only[zAW,zLt]
         omega
        omega
       have hsc:=zBm (s:=s) hg hlen;rw[zDC,←zGf]at hsc;have e1:cellsOf (SV.agg (eL (zAW off (T t).size cs)))=eL (zAW off (T t).size cs):=rfl;rw[e1,hsc];exact this
  ·cases h
 ·cases h
def zDS {xs:List Operand}{K:V→TS→Option R}{K':SV→St→Prop}(hK:∀ v s,K v s=some r→K' (e v) (eS s))(h:outT xs s K=some r):outK xs (eS s) K':=by
 unfold outT at h;unfold outK;split at h
 ·show K' (AM.ev (eS s).env _) (strip (eS s) _);rw[zAr,zCl];exact hK _ _ h
 ·rename_i hn;split
  ·rename_i x;exact absurd rfl (hn x)
  ·rw[zLl,zIo];exact hK _ _ h
def zUe {rs:List ResultVar}{K:V→TS→Option R}{K':SV→St→Prop}(hK:∀ v s,K v s=some r→K' (e v) (eS s))(h:resT T rs s K=some r):resK T rs (eS s) K':=by
 unfold resT at h;unfold resK;split at h
 ·exact zDS hK h
 ·exact zDS hK h
 ·exact zDS hK h
 ·exact zDS hK h
 ·exact zHL (fun s h=>zDS hK h) h
 ·obtain⟨h1,h2⟩:=zAF h;exact⟨by simpa using h1,zHL (fun s h=>zDS hK h) h2⟩
 ·cases h
end
end Go.TM
end
