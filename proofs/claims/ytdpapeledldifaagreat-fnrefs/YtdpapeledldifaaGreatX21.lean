/- Part 22 of the proof that the law FnRefs holds of every input; no condition. -/
import Derived.Test.YtdpapeledldifaaGreatX20
set_option autoImplicit true
set_option relaxedAutoImplicit true
set_option linter.all false
section
namespace Go.TM
open Go.AM
section
variable {P:Program}{R:Type}{T:Nat→TI}{s:TS}{K:TS→Option R}{K':St→Prop}{r:R}
theorem zBt:∀(l:List OPat) (obs:List TO) (x:(zAw l).Den),eqNs (zCn obs) (zCN l)=true→wkL (eL (ofOs obs)) (eL (encP (zAw l) x))→wkObs (eOs obs) (eOs (mkO l (encP (zAw l) x)))
 |[],[],x,_,_=>rfl
 |[],_::_,x,h,_=>by simp[zCn,zCN,eqNs]at h
 |_::_,[],x,h,_=>by simp[zCn,zCN,eqNs]at h
 | o::l,t::obs,x,hn,h=>by
   simp only[zCn,zCN,eqNs,zBa,beq_iff_eq]at hn
   simp only[zAw,encP,ofOs,eL]at h ⊢
   generalize hx:fstD o.pat.cst (zAw l).cst o.pat.dflt x=x1 at h ⊢
   generalize hy:sndD o.pat.cst (zAw l).cst (zAw l).dflt x=y1 at h ⊢
   cases o with
   | box n p =>
     have h':wkL (e (ofO (some t))::eL (ofOs obs)) (SV.agg (eL (encP p x1))::eL (encP (zAw l) y1)):=h
     obtain⟨h1,h2⟩:=zCg h'
     have h3:=zBt l obs y1 hn.2 h2
     cases t with
     |arr m t d l=>simp[ofO,e,wk]at h1
     |opn m t d l i cs=>simp[ofO,e,wk]at h1
     |spl m t l k=>simp[ofO,e,wk]at h1
     | box m cs =>
       have h1:wkL (eL cs) (eL (encP p x1)):=h1
       have hl:=zHH h1
       simp only[zAO]at hl
       exact⟨hn.1,hl,rfl,⟨h1,rfl⟩,h3⟩
   | arr n g d =>
     have h':wkL (e (ofO (some t))::eL (ofOs obs)) (SV.own g.sz ((x1:List g.Den).map (encC d g))::eL (encP (zAw l) y1)):=h
     obtain⟨h1,h2⟩:=zCg h'
     have h3:=zBt l obs y1 hn.2 h2
     cases t with
     |box m cs=>simp[ofO,e,wk]at h1
     |opn m g' d' l' i' cs'=>simp[ofO,e,wk]at h1
     |spl m g' l' k'=>simp[ofO,e,wk]at h1
     | arr m g' d' l' =>
       simp only[ofO,e,wk,SV.own.injEq]at h1
       have key:wkRows (l'.map (encC d' g')) ((x1:List g.Den).map (encC d g)):=by rw[h1.2];exact zBe _
       exact⟨hn.1,h1.1,rfl,key,h3⟩
   | opn n g d p =>
     obtain⟨y,i,z,hv,hmk⟩:=zUt n g d p x1
     have h':wkL (e (ofO (some t))::eL (ofOs obs)) (eL (encP (OPat.opn n g d p).pat x1)++eL (encP (zAw l) y1)):=by
      rw[←zBW];exact h
     rw[hv]at h'
     obtain⟨h1,h2⟩:=zCg h'
     have h3:=zBt l obs y1 hn.2 h2
     cases t with
     |box m cs=>simp[ofO,e,wk]at h1
     |arr m g' d' l'=>simp[ofO,e,wk]at h1
     |spl m g' l' k'=>simp[ofO,e,eL,wk,wkL]at h1
     | opn m g' d' l' i' cs' =>
       simp only[ofO,e,eL,wk,wkL,SV.own.injEq,SV.p.injEq]at h1
       obtain⟨⟨h6,h7⟩,⟨_,h8,hc⟩,h9,_⟩:=h1
       rw[hv]
       refine⟨hn.1,h6,rfl,?_,h3⟩
       show wkRows ((encM d' g' i' l').set i' (eL cs')) ((encM d g i y).set i (eL (encP p z)))
       subst h8
       rw[zMy hc h7]
       exact zFT h9 _ _
   | spl n g =>
     obtain⟨y,i,hv,hmk⟩:=zUV n g x1
     have h':wkL (e (ofO (some t))::eL (ofOs obs)) (eL (encP (OPat.spl n g).pat x1)++eL (encP (zAw l) y1)):=by
      rw[←zBW];exact h
     rw[hv]at h'
     obtain⟨h1,h2⟩:=zCg h'
     have h3:=zBt l obs y1 hn.2 h2
     cases t with
     |box m cs=>simp[ofO,e,wk]at h1
     |arr m g' d' l'=>simp[ofO,e,wk]at h1
     |opn m g' d' l' i' cs'=>simp[ofO,e,eL,wk,wkL]at h1
     | spl m g' l' k' =>
       simp only[ofO,e,eL,wk,wkL,SV.own.injEq,SV.p.injEq]at h1
       obtain⟨⟨h6,h7⟩,⟨_,h8,_⟩,_⟩:=h1
       rw[hv]
       refine⟨hn.1,h6,rfl,?_,h3⟩
       show wkRows (encM .spl g' k' l') (encM .spl g i y)
       subst h8
       rw[zMy (d:=.spl) (d':=.spl) rfl h7]
       exact zBe _
theorem zWE {rest:List V}{q:Pat}:∀(l:List (Nat×Pat)) (args:List V) (x:(zBP l q).Den),okA l=true→args.length=l.length→wkL (eL (args++rest)) (eL (encP (zBP l q) x)) →
  wkL (eL args) (eL (zQb l (encP (zBP l q) x)))∧∃y:q.Den,zMP l (encP (zBP l q) x)=encP q y∧wkL (eL rest) (eL (encP q y))
 |[],[],x,_,_,h=>⟨rfl,x,rfl,h⟩
 |[],_::_,x,_,hl,_=>by simp at hl
 |_::_,[],x,_,hl,_=>by simp at hl
 | p::l,a::args,x,ho,hl,h=>by
   simp only[okA,zBa]at ho
   simp only[zBP,encP]at h ⊢
   generalize hx:fstD p.2.cst (zBP l q).cst p.2.dflt x=x1 at h ⊢
   generalize hy:sndD p.2.cst (zBP l q).cst (zBP l q).dflt x=y1 at h ⊢
   obtain⟨v,hv⟩:=zQi p.2 (fun q q' hq=>by rw[hq]at ho;cases ho.1) (fun hq=>by rw[hq]at ho;cases ho.1) x1
   rw[hv]at h ⊢
   simp only[List.cons_append,List.nil_append,eL]at h ⊢
   obtain⟨h1,h2⟩:=zCg h
   obtain⟨h3,y,h4,h5⟩:=zWE l args y1 ho.2 (by simpa using hl) h2
   exact⟨⟨h1,h3⟩,y,h4,h5⟩
theorem zJh {p:SPat}{args:List V}{obs:List TO}{K:p.Den→Option R}(h:decIn p args obs K=some r) :
  ∃x,K x=some r∧wkL (eL args) (eL (zKl p x))∧wkObs (eOs obs) (eOs (zTK p x)):=by
 obtain⟨h0,h1⟩:=zAD h
 simp only[zBa]at h0
 obtain⟨x,cs,rest,h2,h3,h4,_⟩:=zFP p.pat true _ _ h1
 obtain⟨rfl,h5⟩:=zEL h2
 rw[List.append_nil]at h3
 subst h3
 obtain⟨h6,y,h7,h8⟩:=zWE p.al args x h0.1.1 (eq_of_beq h0.1.2) h4
 refine⟨x,h5,h6,?_⟩
 show wkObs (eOs obs) (eOs (mkO p.ob (zMP p.al (encP (zBP p.al (zAw p.ob)) x))))
 rw[h7]
 exact zBt p.ob obs y h0.2 h8
theorem zKK {en:TEnt}{y:en.Y}{K:V→List TO→Option R}(h:resGo en y K=some r):∃v obs,en.res y=some (v,obs)∧K v obs=some r:=by
 unfold resGo at h
 split at h
 ·exact⟨_,_,by assumption,h⟩
 ·cases h
theorem zKd:∀a b:List TO,eOs (a++b)=eOs a++eOs b
 |[],_=>rfl
 |x::a,b=>by simp only[List.cons_append,eOs,zKd a b]
theorem zKW:∀(ns:List Nat) (s:TS),(zEe ns s).n=s.n
 |[],_=>rfl
 |o::ns,s=>by simp only[zEe,zKW ns];rfl
theorem zVb {ns:List Nat}{d:Option Tmp}{v:V}{obs:List TO}(hK:∀ s,K s=some r→K' (eS s))(h:goT ns d K s v obs=some r):goOn ns d K' (eS s) (e v) (eOs obs):=by
 obtain⟨h1,h2⟩:=zAD h
 unfold goOn
 refine zAQ ?_ ?_
 ·unfold zSh
  simp only[zWA,zBa]at h1
  rw[zMg,zSd,zHZ _ _ h1.1.2]
  simp only[h1.1.1.1,h1.1.1.2,h1.1.2,h1.2,Bool.and_self]
 ·have he:zFS (outN (zDP d) 100000 ns) (zEt 100000 ns) (eS s) (eOs obs) (e v) d=eS (zWH (outN (zDP d) 100000 ns) (zEt 100000 ns) s obs v d):=by
   unfold zFS zWH
   rw[ren_e,zMg]
   have h3:(⟨(eS s).env,zFD ((zEt 100000 ns).map (outN (zDP d) 100000 ns)) (eS s).ob⟩:St)=eS ⟨s.n,s.al,zTG ((zEt 100000 ns).map (outN (zDP d) 100000 ns)) s.ob⟩:=by
    simp only[eS,zUi]
   rw[h3,zKX,←zAR]
   congr 1
   simp only[eS,zQH,zKd,zKW]
  rw[he]
  exact hK _ h2
theorem zPO {en:TEnt}{ns:List Nat}{xs:List Operand}{caps:List V}{d:Option Tmp}(hK:∀ s,K s=some r→K' (eS s))(h:zVy en ns xs caps d K s=some r):callW en.W ns xs (eL caps) d K' (eS s):=by
 unfold zVy at h
 unfold callW
 split at h
 ·rename_i obs hobs
  have hs:zCH ns (eS s).ob=some (eOs obs):=zUb _ _ _ hobs
  rw[hs]
  simp only
  obtain⟨h1,h2⟩:=zAD h
  have h1':=h1
  simp only[zBa]at h1'
  rw[zIU,←zBW,zDa,zHZ _ _ h1'.1.2,zDT]
  refine zAQ (by simp only[h1'.1.1.1,h1'.1.1.2,h1'.2,Bool.and_self]) ?_
  obtain⟨x,h3,h4,h5⟩:=zJh h2
  obtain⟨y,h6,h7⟩:=zKh h3
  obtain⟨v,obs',h8,h9⟩:=zKK h7
  rw[zJE,zQH]
  exact⟨x,y,v,obs',h4,h5,h6,h8,zVb hK h9⟩
 ·cases h
theorem zNJ {en:TEnt}{ns:List Nat}{n:Nat}{f:Operand}{xs:List Operand}{d:Option Tmp}(hK:∀ s,K s=some r→K' (eS s))(h:zQr en ns n f xs d K s=some r):zSi en.W ns n f xs d K' (eS s):=by
 unfold zQr at h
 unfold zSi
 rw[zAp]
 split at h
 ·rename_i n' caps hv
  rw[hv]
  obtain⟨h1,h2⟩:=zAD h
  exact zAQ h1 (zPO hK h2)
 ·cases h
theorem zGq {Q:St→Prop}:∀(l:List Nat) {s:TS},(∀s,K s=some r→Q (eS s))→zMs l K s=some r→zPC l Q (eS s)
 |[],s,hK,h=>hK _ h
 | o::l,s,hK,h=>by
   unfold zMs zHu at h
   unfold zPC zVn
   split at h
   ·rename_i n g d l' hg
    rw[zBO hg]
    refine⟨rfl,?_⟩
    have:=zGq l hK h
    simp only[zBv]
    simp only[eS]at this ⊢
    rw[zOC,show SV.sl g.sz (l'.map (encC false g))=e (.sl g l')from rfl,zUR,zFa]
    exact this
   ·cases h
theorem zPP {tbl:Nat→Option TEnt}(htb:TbOk P tbl):zEB (zVz tbl) (CallV P):=by
 intro R f xs d s K K' r hK h
 unfold zVz at h
 split at h
 ·rename_i n caps hv
  split at h
  ·rename_i en hen
   obtain⟨hfid,h⟩:=zAD h
   have hfid:=eq_of_beq hfid
   obtain⟨k,hen⟩:=zTM hen
   have hok:=htb _ _ hen
   rw[hfid]at hok
   refine⟨tbOne n (en.ent (locsT en.ps (evTL (zHs s xs) xs++caps) (zHs s xs).ob)),zPS.ins zPS.nil hok,?_⟩
   unfold zQw callT
   rw[zAp,hv]
   simp only[e]
   have ht:∀e:Ent,tbOne n e n=some e:=fun e=>by simp only[tbOne,ins,beq_self_eq_true,cond_true]
   rw[ht]
   simp only[TEnt.ent]
   split at h
   ·rename_i hp
    rw[hp]
    simp only
    rw[zIU,←zBW]
    obtain⟨x,h3,h4,h5⟩:=zJh h
    obtain⟨y,h6,h7⟩:=zKh h3
    obtain⟨v,obs',h8,h9⟩:=zKK h7
    obtain⟨h10,h11⟩:=zAD h9
    refine⟨x,y,v,obs',?_,h5,h6,h8,?_⟩
    ·show wkL (brwL (eOs s.ob) _) _
     rw[zSj];exact h4
    ·unfold goFlat
     rw[zAR]
     exact zAQ (zVK _ h10) (hK _ h11)
   ·rename_i hp
    rw[hp]
    simp only
    rw[zSS]
    unfold callET at h
    unfold callE
    split at h
    ·rename_i ns hns
     rw[zIU,←zBW]
     have hns':locsT en.ps (evTL (zHs s xs) xs++caps) (zHs s xs).ob=some ns:=hns
     rw[hns']
     simp only
     rw[zWD]
     exact zGq _ (fun s h=>zNJ hK h) h
    ·cases h
  ·cases h
 ·cases h
end
def dropOwnV:V→V
 |.own _ _ _=>.u
 |.emp _=>.u
 |v=>v
def zEM:List V→List V
 |[]=>[]
 |x::l=>dropOwnV x::zEM l
theorem zGF:∀l:List V,zCR (eL l)=eL (zEM l)
 |[]=>rfl
 | x::l=>by
   simp only[eL,zCR,zEM,zGF l]
   congr 1
   cases x<;>rfl
section
variable {R:Type}
def zMk (T:Nat→TI)(a t:Nat)(s:TS)(K:TS→Option R):Option R:=match zBn s a with
 | .p o i off=>match getT s.ob o with
   | some (.box _ cs)=>(match i with
     | 0=>chkO ((T t).known&&ble (off+(T t).size) cs.length) (match zAz (valV T t (zAV off (T t).size cs))with
       |true=>chkO (zAd T t&&zDy (zAV off (T t).size cs)) (K (setT ⟨s.n,s.al,zAg s.ob o (wrV cs off (zEM (zAV off (T t).size cs)))⟩ a (valV T t (zAV off (T t).size cs))))
       |false=>K (setT s a (valV T t (zAV off (T t).size cs))))
     |_+1=>none)
   |_=>none
 |_=>none
def outT (xs:List Operand)(s:TS)(K:V→TS→Option R):Option R:=match xs with
 |[x]=>K (evT s x) (zAv s x)
 |xs=>K (.tup (zJt s xs)) (zFx s xs)
def resT (T:Nat→TI)(rs:List ResultVar)(s:TS)(K:V→TS→Option R):Option R:=match rs with
 |[]=>outT [] s K
 |[.tmp a]=>outT [.tmp a] s K
 |[.tmp a,.tmp b]=>outT [.tmp a,.tmp b] s K
 |[.tmp a,.tmp b,.tmp c]=>outT [.tmp a,.tmp b,.tmp c] s K
 |[.cell a t]=>zMk T a t s fun s=>outT [.tmp a] s K
 |[.cell a t,.tmp b]=>chkO (a != b) (zMk T a t s fun s=>outT [.tmp a,.tmp b] s K)
 |_=>none
end
def resF (T:Nat→TI)(rs:List ResultVar)(N:Nat)(out:SPat)(ns:List Nat)(y:out.Den):Option (V×List TO) :=
 resT T rs (encS N out y) fun v s=>match selT ns s.ob with
  |some obs=>some (v,obs)
  |none=>none
def retT (N:Nat)(out:SPat):AX→TS→Option out.Den
 |.normal,s=>zID N out some s
 |.ret,s=>zID N out some s
 |.exit _,_=>none
noncomputable def funT (T:Nat→TI)(tbl:Nat→Option TEnt)(pl:Nat→List Nat×Plan)(N:Nat)(iv:Nat→Option SPat)(c:Code)(inS out:SPat)(x:inS.Den):Option out.Den :=
 tev T (zVz tbl) pl N iv c out.Den (retT N out) (encS N inS x)
section
variable {R:Type}{T:Nat→TI}{s:TS}{r:R}
theorem zGk {a t:Nat}{K:TS→Option R}{K':St→Prop}(hK:∀ s,K s=some r→K' (eS s))(h:zMk T a t s K=some r):zGD T t (lkp (eS s).env a) (some a) (eS s) K':=by
 unfold zMk at h
 unfold zGD
 rw[zCe]
 split at h
 ·rename_i o i off hv
  rw[hv]
  simp only[e]
  split at h
  ·rename_i n cs hg
   rw[zBN hg]
   simp only
   cases i with
   |succ i=>cases h
   | zero =>
     simp only at h
     obtain⟨h1,h2⟩:=zAD h
     simp only[zBa]at h1
     have hoff:off+(T t).size≤cs.length:=zBS h1.2
     refine⟨h1.1,by simp,?_⟩
     rw[zTE]
     refine⟨by rw[zAO];exact hoff,?_⟩
     rw[←zCf,zIc]
     have hnotown:(∀k rows,e (valV T t (zAV off (T t).size cs)) ≠ .own k rows)∨zAd T t=false:=by
      cases hs:zAd T t with
      |false=>exact .inr rfl
      | true =>
        refine .inl fun k rows hq=>?_
        unfold valV at hq
        unfold zAd at hs
        split at hq
        ·simp[e]at hq
        ·rename_i hne
         split at hs
         ·rename_i fs hfs;exact hne fs hfs
         ·cases hs
     cases ho:zAz (valV T t (zAV off (T t).size cs))with
     | false =>
       rw[ho]at h2
       simp only at h2
       have hne:=e_ne_own ho
       split
       ·rename_i heq;exact absurd heq (hne _ _)
       ·rw[zBK,ho]
        simp only[Bool.false_eq_true,if_false]
        have:=hK _ h2
        rw[←zCk]at this
        exact this
     | true =>
       rw[ho]at h2
       simp only at h2
       obtain⟨h3,h4⟩:=zAD h2
       simp only[zBa]at h3
       have hst:valV T t (zAV off (T t).size cs) = .agg (zAV off (T t).size cs):=by
        unfold valV
        have hs:=h3.1
        unfold zAd at hs
        split at hs
        ·rename_i hk;rw[hk]
        ·cases hs
       rw[hst]at h4 ho ⊢
       simp only[e]
       have ho':zAe (SV.agg (eL (zAV off (T t).size cs)))=true:=by
        have:=zBK (.agg (zAV off (T t).size cs))
        rw[ho]at this
        exact this
       rw[ho']
       simp only[if_true]
       refine⟨h3.1,by show zBw (eL _)=true;rw[zDt];exact h3.2,?_⟩
       have:=hK _ h4
       rw[←zCk]at this
       have hlen:(wrV cs off (zEM (zAV off (T t).size cs))).length=cs.length:=by
        refine zCY _ _ _ ?_
        have:(zEM (zAV off (T t).size cs)).length≤(T t).size:=by
         rw[←zAO,←zGF,zCQ,zAO]
         simp only[zAV,List.length_take]
         omega
        omega
       have hsc:=zBh (s:=s) hg hlen
       rw[zCr,←zGF]at hsc
       have e1:cellsOf (SV.agg (eL (zAV off (T t).size cs)))=eL (zAV off (T t).size cs):=rfl
       rw[e1,hsc]
       exact this
  ·cases h
 ·cases h
theorem zDH {xs:List Operand}{K:V→TS→Option R}{K':SV→St→Prop}(hK:∀ v s,K v s=some r→K' (e v) (eS s))(h:outT xs s K=some r):outK xs (eS s) K':=by
 unfold outT at h
 unfold outK
 split at h
 ·show K' (AM.ev (eS s).env _) (strip (eS s) _)
  rw[zAp,zCa];exact hK _ _ h
 ·rename_i hn
  split
  ·rename_i x;exact absurd rfl (hn x)
  ·rw[zKs,zIN];exact hK _ _ h
theorem zTF {rs:List ResultVar}{K:V→TS→Option R}{K':SV→St→Prop}(hK:∀ v s,K v s=some r→K' (e v) (eS s))(h:resT T rs s K=some r):resK T rs (eS s) K':=by
 unfold resT at h
 unfold resK
 split at h
 ·exact zDH hK h
 ·exact zDH hK h
 ·exact zDH hK h
 ·exact zDH hK h
 ·exact zGk (fun s h=>zDH hK h) h
 ·obtain⟨h1,h2⟩:=zAD h
  exact⟨by simpa using h1,zGk (fun s h=>zDH hK h) h2⟩
 ·cases h
end
end Go.TM
end
