/- Part 31 of the proof of FnTidy; no condition. -/
import Derived.Test.YtdpapeledldifaaGreatX29
set_option autoImplicit true
set_option relaxedAutoImplicit true
set_option linter.all false
namespace Go.Proofs.YtdpapeledldifaaGreat
section
open Go Go.AM Go.TM Go.Stow
def zVE (b:UInt8)(n:Nat)(h:n<256):((b.toNat:Int)=(n:Int))=(b=UInt8.ofNat n):=by
 apply propext;constructor
 ·intro e;have e:b.toNat=n:=by omega
  rw[←e,UInt8.ofNat_toNat]
 ·intro e;subst e;rw[UInt8.toNat_ofNat_of_lt' h]
def u41 (b:UInt8):((b.toNat:Int)=41)=(b=41):=zVE b 41 (by omega)
def u40 (b:UInt8):((b.toNat:Int)=40)=(b=40):=zVE b 40 (by omega)
def u59 (b:UInt8):((b.toNat:Int)=59)=(b=59):=zVE b 59 (by omega)
def u73 (b:UInt8):((b.toNat:Int)=73)=(b=73):=zVE b 73 (by omega)
def u76 (b:UInt8):((b.toNat:Int)=76)=(b=76):=zVE b 76 (by omega)
def zLU {α:Type}{s t r:List α}{n:Nat}(h:s.drop n=t++r):(s.take (n+t.length)).drop n=t∧s.drop (n+t.length)=r:=by
 constructor
 ·rw[List.drop_take,h,show n+t.length-n=t.length by omega,List.take_left'];rfl
 ·rw[←List.drop_drop,h,List.drop_left'];rfl
def zTy {α:Type}{s t r:List α}{n:Nat}(hn:n≤s.length)(h:s.drop n=t++r):n+t.length+r.length=s.length:=by
 have:=congrArg List.length h;simp only[zLd,zLa]at this;omega
def n213 (s:List UInt8)(a:Nat)(hl:s.length≤1048576)(ha:a≤s.length):F213 (s,(a:Int))=some (match Stow.one (s.drop a)with|some (t,_)=>((a+t.length:Nat):Int)|none=>-1):=by
 have h0:(0:Int)≤a:=by omega
 by_cases hlt:(a:Int)<s.length
 ·have hn:a<s.length:=by omega
  have hle:¬((s.length:Int)≤a):=by omega
  simp (discharger:=omega) only[F213,hlt,hle,zDt,zDf,zAJ,zAI,zAD,h0,zTn,zAK,zAU,zAG,u73,u76,wI]
  rw[zBf hn,zNp];by_cases h73:s[a]=73
  ·rw[if_pos h73,if_pos h73,zAH];simp only[List.length_singleton]
   rfl
  ·rw[if_neg h73,if_neg h73,zAC];simp (discharger:=omega) only[hle,if_false,h0,zDt,zAD,zTn,zAK]
   by_cases h76:s[a]=76
   ·rw[if_pos h76,if_pos h76];simp only[zAC]
    refine(zKO (fun j=>(s,(a:Int),((a+1+j:Nat):Int))) () (s.drop (a+1)) (fun x=>decide (x=59)) (fun j=>if Nm ((s.drop (a+1)).take j)then((a+1+j+1:Nat):Int)else -1) ?_ ?_ ?_).trans ?_
    ·rw[wI (by omega) (by omega)];rfl
    ·have:¬(((a+1+(s.drop (a+1)).length:Nat):Int)<s.length):=by simp only[zLd];omega
     simp only[this,if_false]
    ·intro j hj;have hj':a+1+j<s.length:=by simp only[zLd]at hj;omega
     have hi:((a+1+j:Nat):Int)<s.length:=by omega
     have hi0:(0:Int)≤((a+1+j:Nat):Int):=by omega
     have hg1:(0:Int)≤(a:Int)+1:=by omega
     have hg2:(a:Int)+1≤((a+1+j:Nat):Int):=by omega
     have hg3:((a+1+j:Nat):Int)≤s.length:=by omega
     have ht:((a:Int)+1).toNat=a+1:=by omega
     have hd:(s.take (a+1+j)).drop (a+1)=(s.drop (a+1)).take j:=by rw[List.drop_take];congr 1;omega
     have hb:((s.drop (a+1)).take j).length≤1048576:=by simp only[zLt,zLd];omega
     have hg:(s.drop (a+1))[j]=s[a+1+j]:=by simp
     simp (discharger:=omega) only[hi,hi0,hg1,hg2,hg3,if_true,zDt,zBs,zAJ,zAD,ht,zTn,zAK,u59,zAG,hd,n127 _ hb,zAB,wI,zDe,hg]
     by_cases hx:s[a+1+j]=59
     ·rw[if_pos hx,if_pos hx];by_cases hm:Nm ((s.drop (a+1)).take j)
      ·rw[if_pos hm,if_pos hm];rfl
      ·rw[if_neg hm,if_neg hm]
     ·rw[if_neg hx,if_neg hx];rfl
    ·rw[zTz];cases hf:(s.drop (a+1)).findIdx? (fun x=>decide (x=59))with
     |none=>rfl
     | some j=>
       simp only[zOb]
       have hj:=(List.findIdx?_eq_some_iff_getElem.1 hf).1;by_cases hm:Nm ((s.drop (a+1)).take j)
       ·rw[if_pos hm,if_pos hm];simp only[zLc,zLa,zLt,zLn]
        rw[Nat.min_eq_left (by omega)];congr 1;omega
       ·rw[if_neg hm,if_neg hm]
   ·rw[if_neg h76,if_neg h76];rfl
 ·have hle:(s.length:Int)≤a:=by omega
  simp only[F213,hlt,hle,zDt,zDf,zAJ,zAI,zAC,zAH]
  rw[List.drop_eq_nil_of_le (by omega)];rfl
def n128 (s:List UInt8)(hl:s.length≤1048576):F128 s=some (decide (Tok s)):=by
 simp only[F128,zAG]
 by_cases h:(0:Int)<s.length
 ·have e:=n213 s 0 hl (by omega);rw[if_pos h];rw[show((0:Int))=((0:Nat):Int)from rfl,e,zAB,List.drop_zero];congr 1;rw[decide_eq_decide];cases ho:Stow.one s with
  | none=>
    simp only
    constructor
    ·intro h;omega
    ·intro ht;rw[zVq,ho]at ht;cases ht
  | some p=>
    obtain⟨t,r⟩:=p;obtain⟨h1,h2⟩:=zCV ho;simp only[Nat.zero_add]
    constructor
    ·intro hh
     have:r=[]:=by
      have:=congrArg List.length h1;rw[zLa]at this;exact List.length_eq_zero_iff.1 (by omega)
     rw[this,zAn]at h1;rw[h1];exact h2
    ·intro ht;rw[zVq,ho]at ht;simp only[zSe,zPi]at ht;rw[ht.1]
 ·rw[if_neg h,eq_comm];have:s=[]:=List.length_eq_zero_iff.1 (by omega);subst this;simp only[zSe,zDn]
  exact zDd
def zUK {X Y R:Type}{f:X→Option (X⊕(Y⊕R))}{k:Y→Option R}(s:List UInt8)(mk:List (List UInt8)→Nat→X)(bad:R)(good:List (List UInt8)→List UInt8→R)
  (hend:∀out a,s.length≤a→bindE (zAE f (mk out a)) k=some bad)
  (h41:∀out a (h:a<s.length),s[a]=41→bindE (zAE f (mk out a)) k=some (good out (s.drop (a+1))))
  (hbad:∀out a (h:a<s.length),s[a]≠41→(Stow.one (s.drop a)=none∨4≤out.length)→bindE (zAE f (mk out a)) k=some bad)
  (hstep:∀out a t r (h:a<s.length),s[a]≠41→Stow.one (s.drop a)=some (t,r)→out.length<4→f (mk out a)=some (.inl (mk (out++[t]) (a+t.length)))) :
  ∀(n a:Nat) (out:List (List UInt8)),out.length+n=4→a≤s.length→bindE (zAE f (mk out a)) k=some (match more n (s.drop a)with|some (ts,b)=>good (out++ts) b|none=>bad):=by
 intro n
 induction n with
 | zero=>
   intro a out ho ha;by_cases h:a<s.length
   ·rw[zBf h];simp only[more]
    by_cases hx:s[a]=41
    ·rw[if_pos hx,h41 out a h hx];simp only[zAn]
    ·rw[if_neg hx,hbad out a h hx (.inr (by omega))]
   ·rw[hend out a (by omega),List.drop_eq_nil_of_le (by omega)];rfl
 | succ n ih=>
   intro a out ho ha;by_cases h:a<s.length
   ·rw[zBf h,zHK];by_cases hx:s[a]=41
    ·rw[if_pos hx,h41 out a h hx];simp only[zAn]
    ·rw[if_neg hx,←zBf h];cases hone:Stow.one (s.drop a)with
     |none=>rw[hbad out a h hx (.inl hone)];rfl
     | some p=>
       obtain⟨t,r⟩:=p;have hds:=zLU (zCV hone).1;have hdl:=zTy ha (zCV hone).1;rw[zDu (hstep out a t r h hx hone (by omega)),ih (a+t.length) (out++[t]) (by simp;omega) (by omega),hds.2];simp only[zOb]
       cases more n r with
       |none=>rfl
       |some q=>simp only[Option.map_some,zAa,List.singleton_append]
   ·rw[hend out a (by omega),List.drop_eq_nil_of_le (by omega)];rfl
noncomputable def fin3 (ts:List (List UInt8))(back:List UInt8):List (List UInt8)×List UInt8×Bool:=if back=[86]∨Tok back then(ts,back,true)else([],[],false)
def zIu (x:UInt8)(l:List UInt8):dsc (x::l)=if x=40 then(match more 4 l with|some (ts,b)=>fin3 ts b|none=>([],[],false))else([],[],false):=by
 simp only[dsc]
 split
 ·cases more 4 l with
  |none=>rfl
  |some p=>rfl
 ·rfl
def n214 (s:List UInt8)(hl:s.length≤1048576):F214 s=some (dsc s):=by
 cases hs:s with
 |nil=>rfl
 | cons x l=>
   have hne:¬(((x::l).length:Int)=0):=by simp only[zLc];omega
   have hpos:0<(x::l).length:=by simp
   rw[zIu];simp (discharger:=assumption) only[F214,hne,zDf,zAI,zAK,zAU,zAG,u40,u41,List.getElem_cons_zero]
   by_cases h40:x=40
   ·rw[if_pos h40,if_pos h40,zAC];rw[←hs];have hd1:s.drop 1=l:=by rw[hs];rfl
    rw[←hd1];refine zUK s (fun out a=>(s,out,(a:Int))) ([],[],false) fin3 ?_ ?_ ?_ ?_ 4 1 [] rfl (by rw[hs];simp)
    ·intro out a ha;have h1:¬((a:Int)<s.length):=by omega
     have h2:(s.length:Int)≤a:=by omega
     rw[zBE (y:=.inl (s,out,(a:Int))) (by simp only[h1,if_false,zAH])];simp only[zAC,h2,if_true]
    ·intro out a h hx;have h1:(a:Int)<s.length:=by omega
     have h2:¬(s.length:Int)≤a:=by omega
     have h0:(0:Int)≤a:=by omega
     rw[zBE (y:=.inl (s,out,(a:Int))) (by simp (discharger:=omega) only[h1,if_true,h0,zDt,zAD,zTn,zAK,hx,zAH])];have ht:((a:Int)+1).toNat=a+1:=by omega
     have hg1:(0:Int)≤(a:Int)+1:=by omega
     have hg2:(a:Int)+1≤s.length:=by omega
     have hb:(s.drop (a+1)).length≤1048576:=by simp only[zLd];omega
     simp (discharger:=omega) only[zAC,h2,if_false,wI,ht,hg1,hg2,Int.le_refl,zDt,zBs,zAD,zTn,List.take_length,n128 _ hb,zAB,zAG,fin3]
     by_cases hv:s.drop (a+1)=[86]
     ·simp only[hv,if_true,true_or]
     ·by_cases htk:Tok (s.drop (a+1))<;>simp only[hv,htk,if_true,if_false,false_or]
    ·intro out a h hx hh;have h1:(a:Int)<s.length:=by omega
     have h0:(0:Int)≤a:=by omega
     rw[zBE (y:=.inr ([],[],false))]
     ·rfl
     ·simp (discharger:=omega) only[h1,if_true,h0,zDt,zAD,zTn,zAK,hx,if_false,zAC,n213 s a hl (by omega),zAB]
      cases ho:Stow.one (s.drop a)with
      |none=>rfl
      | some p=>
        obtain⟨t,r⟩:=p;rcases hh with hh|hh
        ·rw[ho]at hh;cases hh
        ·have q1:¬(((a+t.length:Nat):Int)<0):=by omega
         have q2:(4:Int)≤out.length:=by omega
         simp only[q1,q2,if_true,if_false,zAH]
    ·intro out a t r h hx ho hlt;have h1:(a:Int)<s.length:=by omega
     have h0:(0:Int)≤a:=by omega
     have hds:=zLU (zCV ho).1;have hdl:=zTy (by omega) (zCV ho).1;have q1:¬(((a+t.length:Nat):Int)<0):=by omega
     have q2:¬(4:Int)≤out.length:=by omega
     have q3:(a:Int)≤((a+t.length:Nat):Int):=by omega
     have q4:((a+t.length:Nat):Int)≤s.length:=by omega
     have q5:out.length+1≤9223372036854775807:=by omega
     have q6:(out.length+1)*16≤140737488355328:=by omega
     simp (discharger:=omega) only[h1,if_true,h0,zDt,zAD,zTn,zAK,hx,if_false,zAC,n213 s a hl (by omega),zAB,ho,q1,q2,q3,q4,q5,q6,zBs,hds.1]
   ·rw[if_neg h40,if_neg h40,zAH]
def n129 (s:List UInt8)(hl:s.length≤1048576):F129 s=some (decide (Dsc s)):=by
 simp only[F129,n214 s hl,zAB]
 congr 1;rw[Bool.eq_iff_iff,decide_eq_true_iff];exact Iff.rfl
def n204 (s:List UInt8)(c:UInt8)(hl:s.length≤1048576):F204 (s,[c])=some (match s with|x::l=>if x=c then(l,true)else(s,false) | []=>(s,false)):=by
 cases s with
 |nil=>rfl
 | cons x l=>
   have h1:(([c]:List UInt8).length:Int)≤(x::l).length:=by simp only[zLc,zLn];omega
   have h0:(0:Int)≤(([c]:List UInt8).length:Int):=by simp
   have ht:Int.toNat (([c]:List UInt8).length:Int)=1:=rfl;simp only[F204,F259,F293,h1,h0,Int.le_refl,zDt,zAJ,zBs,zAD,ht,zAB,zAU,zAG,zTn,List.take_length,List.drop_zero,List.take_succ_cons,List.take_zero,List.drop_succ_cons]
   by_cases hx:x=c
   ·rw[if_pos (by rw[hx]),if_pos hx,zAB]
   ·rw[if_neg (by simpa using hx),if_neg hx,zAB]
def n205 (s:List UInt8)(c:UInt8)(hl:s.length≤1048576):∃t b,F205 (s,[c])=some (t,b)∧(b=true→s=t++[c])∧(b=false→∀u,s≠u++[c]):=by
 by_cases hs:s=[]
 ·subst hs;exact⟨[],false,rfl,(fun h=>by cases h),fun _ u h=>by simp at h⟩
 ·have hpos:0<s.length:=List.length_pos_iff.2 hs;have h1:(([c]:List UInt8).length:Int)≤s.length:=by simp;omega
  have e1:(([c]:List UInt8).length:Int)=1:=rfl;have g1:(0:Int)≤(s.length:Int)-1:=by omega
  have g2:(s.length:Int)-1≤s.length:=by omega
  have ht:((s.length:Int)-1).toNat=s.length-1:=by omega
  have hsp:s.take (s.length-1)++s.drop (s.length-1)=s:=List.take_append_drop _ _;rw[e1]at h1;simp (discharger:=omega) only[F205,F260,F294,e1,h1,zDt,zAJ,wI,g1,g2,Int.le_refl,zBs,zAD,ht,zTn,List.take_length,zAB,zAU,zAG,List.drop_zero]
  by_cases hx:s.drop (s.length-1)=[c]
  ·rw[if_pos hx,zAB];refine⟨_,_,rfl,fun _=>?_,fun h=>by cases h⟩;rw[←hx,hsp]
  ·rw[if_neg hx,zAB];refine⟨_,_,rfl,(fun h=>by cases h),fun _ u hu=>hx ?_⟩;rw[hu];simp
def n122 (s:List UInt8)(hl:s.length≤1048576):F122 s=some (decide (Tok s)):=by
 simp only[F122,F115,n204 s 76 hl,zAB]
 cases s with
 | nil=>
   obtain⟨t,b,e,h1,h2⟩:=n205 [] 59 (by simp);rw[e];simp[zDd]
 | cons x l=>
   by_cases hx:x=76
   ·simp only[hx,if_true]
    have hll:l.length≤1048576:=by simp only[zLc]at hl;omega
    obtain⟨t,b,e,h1,h2⟩:=n205 l 59 hll;rw[e];cases b with
    | true=>
      have h1:=h1 rfl;have htl:t.length≤1048576:=by rw[h1,zLa]at hll;omega
      simp only[zAB,zAJ,n48 t htl,zAG]
      by_cases hn:Nm t
      ·rw[if_pos hn,eq_comm];simp only[zSe,zDe]
       exact .inr ⟨t,hn,by rw[h1]⟩
      ·rw[if_neg hn];congr 1;rw[decide_eq_decide];refine⟨fun h=>.inl h,fun h=>?_⟩;rcases h with h|⟨n,hm,h⟩
       ·exact h
       ·simp only[List.cons.injEq,true_and]at h;rw[h1]at h;have:=List.append_cancel_right h;rw[this]at hn;exact absurd hm hn
    | false=>
      have h2:=h2 rfl;simp only[zAB,zAJ,zAI]
      congr 1;rw[decide_eq_decide];refine⟨fun h=>.inl h,fun h=>?_⟩;rcases h with h|⟨n,hm,h⟩
      ·exact h
      ·simp only[List.cons.injEq,true_and]at h;exact absurd h (h2 n)
   ·simp only[hx,if_false]
    obtain⟨t,b,e,h1,h2⟩:=n205 (x::l) 59 hl;rw[e];simp only[zAB,zAI]
    congr 1;rw[decide_eq_decide];refine⟨fun h=>.inl h,fun h=>?_⟩;rcases h with h|⟨n,hm,h⟩
    ·exact h
    ·simp only[List.cons.injEq]at h;exact absurd h.1 hx
def n289 (s:List UInt8)(c:UInt8):F289 (s,(c.toNat:Int))=some (Lib.indexByte s c):=by
 simp only[F289,F322,zAB,zTn]
 rw[show c.toNat.toUInt8=c from UInt8.ofNat_toNat]
def n239 (s:List UInt8):F239 (s,59)=some (Lib.indexByte s 59):=by
 simp only[F239]
 rw[show((59:Int))=(((59:UInt8).toNat:Nat):Int)from rfl,n289,zAB]
def n238 (s:List UInt8)(hl:s.length≤1048576):F238 s=some (match cut 41 s with|some (a,b)=>(a,b,true)|none=>(s,[],false)):=by
 have e321:F321 s=some (Lib.indexByte s 41):=by
  simp only[F321,zAC,zAG,zDt,zAJ]
  have hat:∀k:UInt8→Option Int,atO [41] 0 k=k 41:=fun k=>rfl
  rw[hat,n289 s 41,zAB];by_cases h:([41]:List UInt8)=s
  ·rw[if_pos h,←h];rfl
  ·rw[if_neg h];rfl
 simp only[F238,F288,e321,zAB,zAG]
 cases hc:cut 41 s with
 | none=>
   rw[zOE (zIv.1 hc),if_neg (by omega)];rfl
 | some p=>
   obtain⟨a,b⟩:=p;obtain⟨h1,h2⟩:=zHW hc;have hlen:s.length=a.length+(b.length+1):=by rw[h1];simp
   rw[show Lib.indexByte s 41=(a.length:Int)by rw[h1];exact zIs h2];have g0:(0:Int)≤a.length:=by omega
   have g1:(a.length:Int)≤s.length:=by omega
   have g2:(0:Int)≤(a.length:Int)+1:=by omega
   have g3:(a.length:Int)+1≤s.length:=by omega
   have ht:((a.length:Int)+1).toNat=a.length+1:=by omega
   have hta:s.take a.length=a:=by rw[h1];simp
   have hda:s.drop (a.length+1)=b:=by rw[h1];simp
   simp (discharger:=omega) only[g0,g1,g2,g3,wI,if_true,zDt,zBs,zAD,zAS,Int.le_refl,zTn,ht,List.take_length,hta,hda,List.drop_zero,zAB]
def zWT {X Y R:Type}{f:X→Option (X⊕(Y⊕R))}{k:Y→Option R}(mk:List (List UInt8)→List UInt8→X)(bad:R)(good:List (List UInt8)→R)
  (hend:∀out,bindE (zAE f (mk out [])) k=some (good out))
  (hbad:∀out x l,(x::l).length≤1048576→(Stow.one (x::l)=none∨out.length=4)→bindE (zAE f (mk out (x::l))) k=some bad)
  (hstep:∀out x l t r,(x::l).length≤1048576→Stow.one (x::l)=some (t,r)→out.length<4→f (mk out (x::l))=some (.inl (mk (out++[t]) r))) :
  ∀(n:Nat) (s:List UInt8) (out:List (List UInt8)),s.length≤1048576→out.length+n=4→bindE (zAE f (mk out s)) k=some (match mr n s with|some ts=>good (out++ts)|none=>bad):=by
 intro n
 induction n with
 | zero=>
   intro s out hs ho;cases s with
   |nil=>rw[hend];simp only[mr,zAn]
   |cons x l=>rw[hbad out x l hs (.inr (by omega))];rfl
 | succ n ih=>
   intro s out hs ho;cases s with
   |nil=>rw[hend];simp only[mr,zAn]
   | cons x l=>
     rw[zWs];cases hone:Stow.one (x::l)with
     |none=>rw[hbad out x l hs (.inl hone)];rfl
     | some p=>
       obtain⟨t,r⟩:=p
       have hle:r.length≤1048576:=by
        have:=congrArg List.length (zCV hone).1;rw[zLa]at this;omega
       rw[zDu (hstep out x l t r hs hone (by omega)),ih r (out++[t]) hle (by simp;omega)];simp only[zOb]
       cases mr n r with
       |none=>rfl
       |some q=>simp only[Option.map_some,zAa,List.singleton_append]
noncomputable def stop (x:UInt8)(l:List UInt8):Nat:=if x=73 then 1 else(Lib.indexByte (x::l) 59+1).toNat
def zWH (x:UInt8)(l:List UInt8):stop x l≤(x::l).length∧((Lib.indexByte (x::l) 59+1:Int)=((Lib.indexByte (x::l) 59+1).toNat:Int))∧(Lib.indexByte (x::l) 59+1).toNat≤(x::l).length:=by
 have h:(Lib.indexByte (x::l) 59+1).toNat≤(x::l).length:=by
  cases hc:cut 59 (x::l)with
  |none=>rw[zOE (zIv.1 hc)];simp
  | some p=>
    obtain⟨a,b⟩:=p;obtain⟨h1,h2⟩:=zHW hc;rw[h1,zIs h2];simp
 have:=Lib.indexByte_ge (x::l) 59;refine⟨?_,by omega,h⟩;unfold stop;split
 ·simp
 ·exact h
def zTE (x:UInt8)(l:List UInt8):(Tok ((x::l).take (stop x l))→Stow.one (x::l)=some ((x::l).take (stop x l),(x::l).drop (stop x l)))∧(¬Tok ((x::l).take (stop x l))→Stow.one (x::l)=none):=by
 constructor
 ·intro h;have:=zNm h ((x::l).drop (stop x l));rwa[List.take_append_drop]at this
 ·intro h;rw[zNo];intro t r e ht;have h0:=ht;rcases ht with rfl|⟨n,hn,rfl⟩
  ·have hx:x=73:=by simp at e;exact e.1
   rw[show stop x l=1 by unfold stop;rw[if_pos hx]]at h;apply h;rw[e];exact h0
  ·have e2:x::l=(76::n)++59::r:=by rw[e];simp
   have hx:x=76:=by simp at e;exact e.1
   have hno:(59:UInt8) ∉ 76::n:=by
    have:=hn.no 59 no59;simp[this]
   apply h
   have hs:stop x l=(76::n).length+1:=by
    unfold stop;rw[if_neg (by rw[hx];decide),e2,zIs hno];omega
   rw[hs,e2]
   have:((76::n)++59::r).take ((76::n).length+1)=76::(n++[59]):=by
    rw[show(76::n)++59::r=(76::(n++[59]))++r by simp,show(76::n).length+1=(76::(n++[59])).length by simp];exact List.take_left' rfl
   rw[this];exact h0
def n170 (s:List UInt8)(hl:s.length≤1048576):F170 s=some (dsc s):=by
 simp only[F170,n238 s hl,zAB]
 cases hc:cut 41 s with
 | none=>
   simp only[zAU,zAI,n204 s 40 hl]
   have:dsc s=([],[],false):=by
    cases s with
    |nil=>rfl
    | cons x l=>
      rw[zIu];have h41:=zIv.1 hc;simp only[List.mem_cons,not_or]at h41;rw[zPz 4 l h41.2];split<;>rfl
   rw[this];cases s with
   |nil=>rfl
   |cons x l=>by_cases hx:x=40<;>simp only[hx,if_true,if_false,zAB,zAH]
 | some p=>
   obtain⟨a,b⟩:=p;obtain⟨h1,h2⟩:=zHW hc;have hal:a.length≤1048576:=by rw[h1,zLa]at hl;omega
   have hbl:b.length≤1048576:=by rw[h1,zLa,zLc]at hl;omega
   simp only[n204 a 40 hal,zAB]
   cases a with
   | nil=>
     simp only[zAU,zAJ,zAI,zAH]
     rw[h1,zNa,zIu,if_neg (by decide)]
   | cons x l=>
     rw[h1,zCa,zIu];by_cases hx:x=40
     ·have hno:(41:UInt8) ∉ l:=fun hm=>h2 (by simp[hm])
      have hll:l.length≤1048576:=by simp only[zLc]at hal;omega
      rw[if_pos hx,zTd 4 l b hno];simp only[hx,if_true,zAU,zAJ,zAG,n122 b hbl,zAB]
      by_cases hb:b=[86]∨Tok b
      ·have hgo:∀A B:Option ((List UInt8×List UInt8)⊕(List (List UInt8)×List UInt8×Bool)),(if b=[86]then A else(if Tok b then A else B))=A:=by
        intro A B;rcases hb with hb|hb
        ·rw[if_pos hb]
        ·rw[if_pos hb];split<;>rfl
       rw[hgo,zAC];simp only
       refine(zWT (fun out rest=>(b,rest,out)) ([],[],false) (fun ts=>(ts,b,true)) ?_ ?_ ?_ 4 l [] hll rfl).trans ?_
       ·intro out;rw[zBE (y:=.inl (b,out)) (by simp only[if_true])];rfl
       ·intro out x l hs hh;have hne:¬(x::l=[]):=by simp
        obtain⟨s1,s2,s3⟩:=zWH x l;obtain⟨k1,k2⟩:=zTE x l;rw[zBE (y:=.inr ([],[],false))]
        ·rfl
        ·simp only[hne,if_false,atO,List.getElem?_cons_zero,u73,n239,zAB]
         rw[show IntKind.wrap .i64 (Lib.indexByte (x::l) 59+1)=((Lib.indexByte (x::l) 59+1).toNat:Int)by rw[wI (by omega) (by omega)];exact s2];rw[show(if x=73 then some (Sum.inl (b,x::l,out,(1:Int)))else some (Sum.inl (b,x::l,out,((Lib.indexByte (x::l) 59+1).toNat:Int))):Option ((List UInt8×List UInt8×List (List UInt8)×Int)⊕((List UInt8×List UInt8×List (List UInt8))⊕((List UInt8×List (List UInt8))⊕(List (List UInt8)×List UInt8×Bool)))))=some (Sum.inl (b,x::l,out,(stop x l:Int)))by unfold stop;split<;>rfl];have g0:(0:Int)≤(stop x l:Int):=by omega
         have g1:(stop x l:Int)≤((x::l).length:Int):=by omega
         have hb1:((x::l).take (stop x l)).length≤1048576:=by simp only[zLt];omega
         simp only[zAC,g0,g1,zDt,zBs,zAD,zTn,List.drop_zero,n122 _ hb1,zAB,zAG]
         by_cases htk:Tok ((x::l).take (stop x l))
         ·rw[if_pos htk]
          have h4:(out.length:Int)=4:=by
           rcases hh with hh|hh
           ·rw[k1 htk]at hh;cases hh
           ·omega
          rw[if_pos h4,zAH]
         ·rw[if_neg htk,zAH]
       ·intro out x l t r hs ho hlt;have hne:¬(x::l=[]):=by simp
        obtain⟨s1,s2,s3⟩:=zWH x l;obtain⟨k1,k2⟩:=zTE x l;simp only[hne,if_false,atO,List.getElem?_cons_zero,u73,n239,zAB]
        rw[show IntKind.wrap .i64 (Lib.indexByte (x::l) 59+1)=((Lib.indexByte (x::l) 59+1).toNat:Int)by rw[wI (by omega) (by omega)];exact s2];rw[show(if x=73 then some (Sum.inl (b,x::l,out,(1:Int)))else some (Sum.inl (b,x::l,out,((Lib.indexByte (x::l) 59+1).toNat:Int))):Option ((List UInt8×List UInt8×List (List UInt8)×Int)⊕((List UInt8×List UInt8×List (List UInt8))⊕((List UInt8×List (List UInt8))⊕(List (List UInt8)×List UInt8×Bool)))))=some (Sum.inl (b,x::l,out,(stop x l:Int)))by unfold stop;split<;>rfl];have g0:(0:Int)≤(stop x l:Int):=by omega
        have g1:(stop x l:Int)≤((x::l).length:Int):=by omega
        have hb1:((x::l).take (stop x l)).length≤1048576:=by simp only[zLt];omega
        simp only[zAC,g0,g1,zDt,zBs,zAD,zTn,List.drop_zero,n122 _ hb1,zAB,zAG]
        have htk:Tok ((x::l).take (stop x l)):=Classical.byContradiction fun hn=>by rw[k2 hn]at ho;cases ho
        have h4:¬(out.length:Int)=4:=by omega
        have q5:out.length+1≤9223372036854775807:=by omega
        have q6:(out.length+1)*16≤140737488355328:=by omega
        rw[if_pos htk,if_neg h4,zAC];rw[k1 htk]at ho;simp only[zSe,zPi]at ho;simp only[g0,g1,q5,q6,Int.le_refl,zDt,zBs,zAD,zTn,List.take_length,List.drop_zero,ho.1,ho.2]
       ·cases mr 4 l with
        |none=>rfl
        |some ts=>simp only[zNa,Option.map_some,fin3,if_pos hb]
      ·have hb1:¬b=[86]:=fun h=>hb (.inl h)
       have hb2:¬Tok b:=fun h=>hb (.inr h)
       simp only[hb1,hb2,if_false,zAH]
       cases mr 4 l with
       |none=>rfl
       |some ts=>simp only[Option.map_some,fin3,if_neg hb]
     ·rw[if_neg hx];simp only[hx,if_false,zAU,zAJ,zAI,zAH]
end
end Go.Proofs.YtdpapeledldifaaGreat
section
namespace Go.Stow
def bndP (p:List Ent):Prop:=p.length≤1048576∧∀x∈p,x.2.1.length≤1048576
def bndP.at {p:List Ent}(h:bndP p)(i:Int):(zAY p i).2.1.length≤1048576:=by
 unfold zAY;split
 ·rename_i hi;rw[zGe (by omega)];exact h.2 _ (List.getElem_mem _)
 ·simp
end Go.Stow
namespace Go.Proofs.YtdpapeledldifaaGreat
open Go Go.AM Go.TM Go.Stow
def n113 (s:List UInt8)(hl:s.length≤1048576):F113 s=some (decide (Dsc s)):=by
 simp only[F113,n170 s hl,zAB]
 congr 1;rw[Bool.eq_iff_iff,decide_eq_true_iff];exact Iff.rfl
noncomputable instance (s:List UInt8):Decidable (zOf s):=Classical.propDecidable _
def n121 (s:List UInt8)(hl:s.length≤1048576):F121 s=some (decide (zOf s)):=by
 simp only[F121,n122 s hl,n113 s hl,zAB,zAG]
 by_cases h:Tok s
 ·rw[if_pos h,eq_comm];simp only[zSe,zDe];exact .inl h
 ·rw[if_neg h];congr 1;rw[decide_eq_decide];exact⟨fun h=>.inr h,fun h'=>h'.resolve_left h⟩
def q215 (p:List Cst)(i:Int)(hp:p.length≤1048576):F215 (p,i)=some (zAY p i):=by
 simp only[F215,q107,zAB,zAG]
 unfold zAY;by_cases h:1≤i∧i≤p.length
 ·rw[if_pos h,if_pos h];have h1:(0:Int)≤i-1:=by omega
  rw[wI (by omega) (by omega),zAX h1,zAK (by omega),zGe (by omega)];rfl
 ·rw[if_neg h,if_neg h]
def q124 (p:List Cst)(i:Int)(hp:p.length≤1048576):F124 (p,i)=some (zAY p i):=by
 simp only[F124,q89,zAB,zAU,zAG]
 unfold zAY;by_cases h:1≤i∧i≤p.length
 ·rw[if_pos h,if_pos h];have h1:(0:Int)≤i-1:=by omega
  rw[wI (by omega) (by omega),zAX h1,zAK (by omega),zGe (by omega)];rfl
 ·rw[if_neg h,if_neg h]
def zCB {R:Type}{r:Option Cst}{e:Cst}(h:r=some e)(k:Cst→Option R):zAA r k=k (e.1,e.2.1,e.2.2.1,e.2.2.2):=by rw[h];rfl
def q131 (p:List Cst)(i:Int)(hp:bndP p):F131 (p,i)=some (txt p i):=by
 simp only[F131]
 rw[zCB (q215 p i hp.1)];simp only[zAU,zAG,txt]
 split<;>rfl
def zDX {p:List Cst}(h:bndP p)(i:Int):(txt p i).length≤1048576:=by
 unfold txt;split
 ·exact h.at i
 ·simp
def q130 (p:List Cst)(i:Int)(hp:bndP p):F130 (p,i)=some (clsN p i):=by
 simp only[F130]
 rw[zCB (q215 p i hp.1)];simp only
 rw[zCB (q215 p _ hp.1)];simp only[zAU,zAG,n127 _ (hp.at _),zAB,clsN]
 by_cases h1:(zAY p i).1=2
 ·by_cases h2:(zAY p (zAY p i).2.2.1).1=1
  ·by_cases h3:Nm (zAY p (zAY p i).2.2.1).2.1
   ·rw[if_pos h1,if_pos h2,if_pos h3,if_pos ⟨h1,h2,h3⟩]
   ·rw[if_pos h1,if_pos h2,if_neg h3,if_neg fun h=>h3 h.2.2]
  ·rw[if_pos h1,if_neg h2,if_neg fun h=>h2 h.2.1]
 ·rw[if_neg h1,if_neg fun h=>h1 h.1]
def q132 (p:List Cst)(i:Int)(hp:bndP p):F132 (p,i)=some (clsN p (zAY p i).2.2.1,txt p (zAY p (zAY p i).2.2.2).2.2.1,txt p (zAY p (zAY p i).2.2.2).2.2.2):=by
 simp only[F132]
 rw[zCB (q215 p i hp.1)];simp only
 rw[zCB (q215 p _ hp.1)];simp only[q130 p _ hp,q131 p _ hp,zAB,eq_self,zDt,zAD,zAS]
def q133 (p:List Cst)(i k:Int)(hp:bndP p):F133 (p,i,k)=some (decide ((zAY p i).1=k)):=by
 simp only[F133]
 rw[zCB (q215 p i hp.1)]
def zOc {p:List Cst}{i:Int}{Q:List UInt8→Prop}[Decidable (Q (zAY p i).2.1)]:(if(zAY p i).1=1 then some (decide (Q (zAY p i).2.1))else some false:Option Bool)=some (decide (zBJ p i Q)):=by
 by_cases h:(zAY p i).1=1
 ·rw[if_pos h];congr 1;rw[decide_eq_decide];exact⟨fun h'=>⟨h,h'⟩,fun h'=>h'.2⟩
 ·rw[if_neg h,eq_comm];simp only[zSe,zDn];exact fun h'=>h h'.1
def zTQ (p:List Cst)(i:Int)(hp:bndP p):F49126 (p,i)=some (decide (zBJ p i Nm)):=by
 simp only[F49126]
 rw[zCB (q124 p i hp.1)];simp only[n48 _ (hp.at i),zAB,zAG]
 exact zOc
def q122126 (p:List Cst)(i:Int)(hp:bndP p):F122126 (p,i)=some (decide (zBJ p i zOf)):=by
 simp only[F122126]
 rw[zCB (q124 p i hp.1)];simp only[n121 _ (hp.at i),zAB,zAG]
 exact zOc
def zWZ (p:List Cst)(i:Int)(hp:bndP p):F123126 (p,i)=some (decide (zBJ p i Tok)):=by
 simp only[F123126]
 rw[zCB (q124 p i hp.1)];simp only[n122 _ (hp.at i),zAB,zAG]
 exact zOc
def zWa (p:List Cst)(i:Int)(hp:bndP p):F114126 (p,i)=some (decide (zBJ p i Dsc)):=by
 simp only[F114126]
 rw[zCB (q124 p i hp.1)];simp only[n113 _ (hp.at i),zAB,zAG]
 exact zOc
def q125 (p:List Cst)(i:Int)(hp:bndP p):F125 (p,i)=some (decide (zBq p i)):=by
 simp only[F125]
 rw[zCB (q124 p i hp.1)];simp only[zTQ p _ hp,zAB,zAG]
 by_cases h:(zAY p i).1=2
 ·rw[if_pos h];congr 1;rw[decide_eq_decide];exact⟨fun h'=>⟨h,h'⟩,fun h'=>h'.2⟩
 ·rw[if_neg h,eq_comm];simp only[zSe,zDn];exact fun h'=>h h'.1
def sd {P:Prop}[Decidable P]:∀{b:Bool},(b=true↔P)→some b=some (decide P):=by
 intro b h;congr 1;rw[Bool.eq_iff_iff,h,decide_eq_true_iff]
def q123123 (p:List Cst)(x:Cst)(hp:bndP p):F123123 (p,x)=some (decide (x.2.1=[]∧zBq p x.2.2.1∧(zAY p x.2.2.2).1=3∧zBJ p (zAY p x.2.2.2).2.2.2 Tok),p,x):=by
 obtain⟨x0,x1,x2,x3⟩:=x;simp only[F123123]
 rw[zCB (q124 p x3 hp.1)];simp only[q125 p _ hp,zWZ p _ hp,zAB,zAG]
 by_cases h1:x1=[]<;>by_cases h2:zBq p x2<;>by_cases h3:(zAY p x3).1=3<;>simp[h1,h2,h3]
def q114123 (p:List Cst)(x:Cst)(hp:bndP p):F114123 (p,x)=some (decide (x.2.1=[]∧zBq p x.2.2.1∧(zAY p x.2.2.2).1=3∧zBJ p (zAY p x.2.2.2).2.2.2 Dsc),p,x):=by
 obtain⟨x0,x1,x2,x3⟩:=x;simp only[F114123]
 rw[zCB (q124 p x3 hp.1)];simp only[q125 p _ hp,zWa p _ hp,zAB,zAG]
 by_cases h1:x1=[]<;>by_cases h2:zBq p x2<;>by_cases h3:(zAY p x3).1=3<;>simp[h1,h2,h3]
def q52 (p:List Cst)(x:Cst)(hp:bndP p)(hx:x.2.1.length≤1048576):F52 (p,x)=some (decide (zDs p x)):=by
 obtain⟨x0,x1,x2,x3⟩:=x;simp only at hx;simp only[F52,q123123 p _ hp,q114123 p _ hp,zTQ p _ hp,q122126 p _ hp,n48 _ hx,n121 _ hx,zAB,zAG]
 unfold zDs;simp only
 by_cases h1:x0=1
 ·by_cases h2:x2=0
  ·by_cases h3:x3=0
   ·by_cases h4:Nm x1
    ·simp[h1,h2,h3,h4]
    ·simp[h1,h2,h3,h4]
   ·simp[h1,h2,h3]
  ·simp[h1,h2]
 ·by_cases h2:x0=2
  ·by_cases h3:x1=[]
   ·by_cases h4:x3=0<;>simp[h2,h3,h4]
   ·simp[h2,h3]
  ·by_cases h3:x0=3
   ·by_cases h4:x1=[]
    ·by_cases h5:zBJ p x2 Nm<;>simp[h3,h4,h5]
    ·simp[h3,h4]
   ·by_cases h4:x0=4
    ·simp[h4]
    ·by_cases h5:x0=5
     ·simp[h5]
     ·by_cases h6:x0=6
      ·simp[h6]
      ·simp[h1,h2,h3,h4,h5,h6]
def q53 (p:List Cst)(i:Nat)(hp:bndP p)(hi:i<p.length):F53 (p,(i:Int))=some (decide (zDs p p[i])):=by
 have h0:(0:Int)≤i:=by omega
 have hw:IntKind.wrap .i64 ((i:Int)+1)=(i:Int)+1:=by have:=hp.1;exact wI (by omega) (by omega)
 have hx:p[i].2.1.length≤1048576:=hp.2 _ (List.getElem_mem hi);have he:=zXe hi;simp only[F53,h0,zDt,zAD,zTn,hw]
 rw[zAK hi];simp only[q130 p _ hp,q131 p _ hp,q132 p _ hp,q133 p _ _ hp,q107,he,n127 _ hx,n128 _ hx,n129 _ hx,n127 _ (zDX hp _),n128 _ (zDX hp _),n129 _ (zDX hp _),zAB,zAU,zAG]
 generalize hxe:p[i]=x at he;obtain⟨x0,x1,x2,x3⟩:=x;rw[hxe]at hx;simp only at hx ⊢;by_cases e1:x0=1
 ·subst e1;by_cases h2:x2=0<;>by_cases h3:x3=0<;>by_cases h4:Nm x1<;>by_cases h5:Tok x1<;>simp only[h2,h3,h4,h5,if_true,if_false]<;>exact sd (by unfold zDs;simp[*,zOf])
 rw[if_neg e1];by_cases e2:x0=2
 ·have hc:clsN p ((i:Int)+1)=[]↔¬zBJ p x2 Nm:=by
   rw[←Classical.not_not (a:=clsN p ((i:Int)+1)=[]),not_congr];show clsN p ((i:Int)+1)≠[]↔_;rw[zDp];unfold zBq;rw[he];simp[e2]
  subst e2;by_cases h3:x1=[]<;>by_cases h4:x3=0<;>by_cases h5:zBJ p x2 Nm<;>simp only[h3,h4,if_true,if_false]<;>exact sd (by unfold zDs;simp[*])
 rw[if_neg e2];by_cases e3:x0=3
 ·have h6:Nm (txt p x2)↔zBJ p x2 Nm:=zIC zHr;have h7:Tok (txt p x3)∨Dsc (txt p x3)↔zBJ p x3 zOf:=zIC (Q:=zOf) zNs;subst e3;by_cases h3:x1=[]<;>by_cases h4:Nm (txt p x2)<;>by_cases h5:Tok (txt p x3)<;>by_cases h8:Dsc (txt p x3)<;>simp only[h3,h4,h5,h8,if_true,if_false]<;>exact sd (by unfold zDs;rw[←h6,←h7];clear h6 h7 he hxe;simp[*])
 rw[if_neg e3]
 have hc:clsN p x2=[]↔¬zBq p x2:=by
  rw[←Classical.not_not (a:=clsN p x2=[]),not_congr];exact zDp
 by_cases e4:4≤x0∧x0≤6
 ·rw[if_pos e4];by_cases h3:x1=[]
  ·rw[if_pos h3];by_cases h4:clsN p x2=[]
   ·rw[if_pos h4,zAH];have:=hc.1 h4;exact sd (by unfold zDs;simp[*])
   ·rw[if_neg h4];have hcl:zBq p x2:=Classical.byContradiction fun h=>h4 (hc.2 h)
    by_cases h5:(zAY p x3).1=3
    ·rw[if_pos h5,zAC];simp only[n128 _ (zDX hp _),n129 _ (zDX hp _),zAB]
     have h6:Tok (txt p (zAY p x3).2.2.2)↔zBJ p (zAY p x3).2.2.2 Tok:=zIC zDd;have h7:Dsc (txt p (zAY p x3).2.2.2)↔zBJ p (zAY p x3).2.2.2 Dsc:=zIC zGY;by_cases h8:x0=4
     ·rw[if_pos h8];exact sd (by unfold zDs;rw[decide_eq_true_iff,h6];simp[*])
     ·rw[if_neg h8];have h9:x0=5∨x0=6:=by omega
      exact sd (by unfold zDs;rw[decide_eq_true_iff,h7];simp[*])
    ·rw[if_neg h5,zAH];exact sd (by unfold zDs;simp[*])
  ·rw[if_neg h3,zAH];exact sd (by unfold zDs;simp[*])
 ·rw[if_neg e4,zAH];have h8:¬x0=4:=by omega
  have h9:¬x0=5:=by omega
  have h10:¬x0=6:=by omega
  exact sd (by unfold zDs;simp[*])
def q15 (p:List Cst)(hp:bndP p)(h60:p.length≤60):F15 p=some (zCw p p.length 0):=by
 simp only[F15,zAG,zAU]
 have h61:¬(60:Int)<p.length:=by omega
 suffices h:∀(m i:Nat),i+m=p.length→∀k:List Cst→Option Int,k p=some 0→bindE (zAE (fun(x:List Cst×Int)=>
   bindE (if x.2<(x.1.length:Int)then if x.2<60 then some (Sum.inl (x.1,x.2))else some (Sum.inr (Sum.inr (Sum.inl x.1)))else some (Sum.inr (Sum.inr (Sum.inl x.1)))) fun(pool2,i1)=>
   zAA (F53 (pool2,i1)) fun y=>
   cndO y (some (Sum.inl (pool2,IntKind.wrap .i64 (i1+1)))) (some (Sum.inr (Sum.inr (IntKind.wrap .i64 (i1+1)))))) (p,(i:Int))) k=some (zCw p m i)by
  refine h p.length 0 (by omega) _ ?_;rw[if_neg h61]
 intro m
 induction m with
 | zero=>
   intro i hi k hk;have h1:¬(i:Int)<p.length:=by omega
   rw[zBE (y:=.inl p) (by simp only[h1,if_false,zAH]),zAC,hk];rfl
 | succ m ih=>
   intro i hi k hk;have h1:(i:Int)<p.length:=by omega
   have h2:(i:Int)<60:=by omega
   have hlt:i<p.length:=by omega
   unfold zCw;rw[dif_pos hlt];by_cases he:zDs p p[i]
   ·rw[if_pos he,←ih (i+1) (by omega) k hk,zDu];simp only[h1,h2,if_true,zAC,q53 p i hp hlt,zAB,he,zDt,zAJ]
    rw[wI (by omega) (by omega)];rfl
   ·rw[if_neg he,zBE (y:=.inr ((i:Int)+1)),zAH];simp only[h1,h2,if_true,zAC,q53 p i hp hlt,zAB,he,zDf,zAI]
    rw[wI (by omega) (by omega)]
def q14 (p:List Cst)(hp:bndP p)(h60:p.length≤60):F14 p=some (zCw p p.length 0):=by
 simp only[F14,zAG,zAU]
 suffices h:∀(m i:Nat),i+m=p.length→bindE (zAE (fun(x:List Cst×List Cst×Int×Int)=>
   if x.2.2.2<x.2.2.1 then
    grdO (decide ((0:Int)≤x.2.2.2)) (atO x.2.1 (Int.toNat x.2.2.2) fun y=>if x.2.2.2=60 then some (Sum.inr (Sum.inr (61:Int)))else
     zAA (F52 (x.1,y.1,y.2.1,y.2.2.1,y.2.2.2)) fun z=>
     cndO z (some (Sum.inl (x.1,x.2.1,x.2.2.1,IntKind.wrap .i64 (x.2.2.2+1)))) (some (Sum.inr (Sum.inr (IntKind.wrap .i64 (x.2.2.2+1))))))
   else some (Sum.inr (Sum.inl ()))) (p,p,(p.length:Int),(i:Int))) (fun _:Unit=>some (0:Int))=some (zCw p m i)by
  exact h p.length 0 (by omega)
 intro m
 induction m with
 | zero=>
   intro i hi;have h1:¬(i:Int)<p.length:=by omega
   rw[zBE (y:=.inl ()) (by simp only[h1,if_false]),zAC];rfl
 | succ m ih=>
   intro i hi;have h1:(i:Int)<p.length:=by omega
   have h0:(0:Int)≤i:=by omega
   have h2:¬(i:Int)=60:=by omega
   have hlt:i<p.length:=by omega
   have hq:=q52 p p[i] hp (hp.2 _ (List.getElem_mem hlt));unfold zCw;rw[dif_pos hlt];by_cases he:zDs p p[i]
   ·rw[if_pos he,←ih (i+1) (by omega),zDu];simp (discharger:=assumption) only[h1,h2,h0,if_true,if_false,zDt,zAD,zTn,zAK,hq,zAB,he,zAJ]
    rw[wI (by omega) (by omega)];rfl
   ·rw[if_neg he,zBE (y:=.inr ((i:Int)+1)),zAH];simp (discharger:=assumption) only[h1,h2,h0,if_true,if_false,zDt,zAD,zTn,zAK,hq,zAB,he,zDf,zAI]
    rw[wI (by omega) (by omega)]
end Go.Proofs.YtdpapeledldifaaGreat
end
section
namespace Go.TM
open Go.AM
section
variable {α X Y R S:Type}
def zBZ {l:List α}{n:Nat}{k:α→Option R}(d:α)(h:n<l.length):atO l n k=k (l.getD n d):=by
 rw[zAK h,List.getD_eq_getElem?_getD,zGe h];rfl
def zXo {f:X→Option (X⊕(Y⊕R))}(F:Option R→Option S)(mk:Nat→X)(fin:Y)(no:R)(n:Nat)(q:Nat→Prop){x0:X}{k:Y→Option R}{P:Prop}{A B:Option S}(hx:x0=mk 0)
  (hend:f (mk n)=some (.inr (.inl fin)))
  (hstep:∀i,i<n→(q i∧f (mk i)=some (.inl (mk (i+1))))∨(¬q i∧f (mk i)=some (.inr (.inr no))))
  (hP:P↔∀i,i<n→q i) (hA:F (k fin)=A) (hB:F (some no)=B) :
  (P∧F (bindE (zAE f x0) k)=A)∨(¬P∧F (bindE (zAE f x0) k)=B):=by
 have key:∀r,((∀i,i<n→q i)→k fin=r)→(¬(∀i,i<n→q i)→some no=r)→bindE (zAE f x0) k=r:=fun r h1 h2=>
  zHf mk fin no n q hx hend (fun i h hq=>(hstep i h).elim (fun h=>h.2) fun h=>absurd hq h.1) (fun i h hq=>(hstep i h).elim (fun h=>absurd h.1 hq) fun h=>h.2) h1 h2
 by_cases h:∀i,i<n→q i
 ·exact .inl ⟨hP.2 h,by rw[key (k fin) (fun _=>rfl) (fun h'=>absurd h h'),hA]⟩
 ·exact .inr ⟨fun hp=>h (hP.1 hp),by rw[key (some no) (fun h'=>absurd h' h) (fun _=>rfl),hB]⟩
def zGj {f:X→Option (X⊕(Y⊕R))}(mk:Nat→X)(fin:Y)(no:R)(n:Nat)(q:Nat→Prop){x0:X}{k:Y→Option R}{r:Option R}(hx:x0=mk 0)
  (hend:f (mk n)=some (.inr (.inl fin)))
  (hstep:∀i,i<n→(q i∧f (mk i)=some (.inl (mk (i+1))))∨(¬q i∧f (mk i)=some (.inr (.inr no))))
  (hk:(∀i,i<n→q i)→k fin=r) (hno:¬(∀i,i<n→q i)→some no=r):bindE (zAE f x0) k=r :=
 zHf mk fin no n q hx hend (fun i h hq=>(hstep i h).elim (fun h=>h.2) fun h=>absurd hq h.1) (fun i h hq=>(hstep i h).elim (fun h=>absurd h.1 hq) fun h=>h.2) hk hno
def any_r {f:X→Option (X⊕(Y⊕R))}(mk:Nat→X)(fin:Y)(g:Nat→R)(n:Nat)(q:Nat→Prop){x0:X}{k:Y→Option R}(hx:x0=mk 0)
  (hend:f (mk n)=some (.inr (.inl fin)))
  (hstep:∀i,i<n→(q i∧f (mk i)=some (.inr (.inr (g i))))∨(¬q i∧f (mk i)=some (.inl (mk (i+1))))) :
  ((∀i,i<n→¬q i)∧bindE (zAE f x0) k=k fin)∨(∃i,i<n∧q i∧bindE (zAE f x0) k=some (g i)):=by
 have key:∀(m i:Nat),i+m=n→((∀j,i≤j→j<n→¬q j)∧zAE f (mk i)=some (.inl fin))∨(∃j,j<n∧q j∧zAE f (mk i)=some (.inr (g j))):=by
  intro m
  induction m with
  | zero=>
    intro i hi;have:i=n:=by omega
    subst this;rw[zAd,hend];exact .inl ⟨fun j h1 h2=>absurd h2 (by omega),rfl⟩
  | succ m ih=>
    intro i hi;rw[zAd];rcases hstep i (by omega)with⟨hq,e⟩|⟨hq,e⟩
    ·rw[e];exact .inr ⟨i,by omega,hq,rfl⟩
    ·rw[e];rcases ih (i+1) (by omega)with⟨h1,h2⟩|h
     ·refine .inl ⟨fun j h3 h4=>?_,h2⟩;by_cases hj:j=i
      ·rw[hj];exact hq
      ·exact h1 j (by omega) h4
     ·exact .inr h
 rw[hx];rcases key n 0 (by omega)with⟨h1,h2⟩|⟨j,h1,h2,h3⟩
 ·exact .inl ⟨fun i hi=>h1 i (by omega) hi,by rw[h2,zAC]⟩
 ·exact .inr ⟨j,h1,h2,by rw[h3,zAH]⟩
end
end Go.TM
end
section
namespace Go.Stow
def zUA {p:List Ent}{i:Int}:clsN p i=[]↔¬zBq p i:=by
 constructor
 ·intro h hc;exact zDp.2 hc h
 ·intro h;exact Classical.byContradiction fun hn=>h (zDp.1 hn)
end Go.Stow
namespace Go.Proofs.YtdpapeledldifaaGreat
open Go Go.AM Go.TM Go.Stow
def has_fin1 (n:Fin 256):decide (andI .i64 (n.val:Int) 1=0) = !decide (has (n.val:Int) 1):=by revert n;decide +kernel
def has_fin2 (n:Fin 256):decide (andI .i64 (n.val:Int) 2=0) = !decide (has (n.val:Int) 2):=by revert n;decide +kernel
def has_fin4 (n:Fin 256):decide (andI .i64 (n.val:Int) 4=0) = !decide (has (n.val:Int) 4):=by revert n;decide +kernel
def has_fin8 (n:Fin 256):decide (andI .i64 (n.val:Int) 8=0) = !decide (has (n.val:Int) 8):=by revert n;decide +kernel
def and1 {f:Int}(h0:0≤f)(h1:f≤255):decide (andI .i64 f 1=0) = !decide (has f 1):=by
 have:=has_fin1 ⟨f.toNat,by omega⟩;rwa[show((f.toNat:Nat):Int)=f by omega]at this
def and2 {f:Int}(h0:0≤f)(h1:f≤255):decide (andI .i64 f 2=0) = !decide (has f 2):=by
 have:=has_fin2 ⟨f.toNat,by omega⟩;rwa[show((f.toNat:Nat):Int)=f by omega]at this
def and4 {f:Int}(h0:0≤f)(h1:f≤255):decide (andI .i64 f 4=0) = !decide (has f 4):=by
 have:=has_fin4 ⟨f.toNat,by omega⟩;rwa[show((f.toNat:Nat):Int)=f by omega]at this
def and8 {f:Int}(h0:0≤f)(h1:f≤255):decide (andI .i64 f 8=0) = !decide (has f 8):=by
 have:=has_fin8 ⟨f.toNat,by omega⟩;rwa[show((f.toNat:Nat):Int)=f by omega]at this
def and1p {f:Int}(h0:0≤f)(h1:f≤255):(andI .i64 f 1=0)=¬has f 1:=by
 have:=and1 h0 h1;apply propext;rw[←decide_not,decide_eq_decide]at this;exact this
def and2p {f:Int}(h0:0≤f)(h1:f≤255):(andI .i64 f 2=0)=¬has f 2:=by
 have:=and2 h0 h1;apply propext;rw[←decide_not,decide_eq_decide]at this;exact this
def and4p {f:Int}(h0:0≤f)(h1:f≤255):(andI .i64 f 4=0)=¬has f 4:=by
 have:=and4 h0 h1;apply propext;rw[←decide_not,decide_eq_decide]at this;exact this
def q108 {f k:Int}(h0:0≤f)(h1:f≤255)(hk:1≤k):F108 (f,k)=some (decide (has f k)):=by
 have hk0:¬k=0:=by omega
 have hd:0≤f / k:=Int.ediv_nonneg h0 (by omega);have hd2:f / k≤f:=Int.ediv_le_self k h0;simp only[F108,hk0,zDf,Bool.not_false,zAD]
 rw[Int.tdiv_eq_ediv_of_nonneg h0,wI (by omega) (by omega),Int.tmod_eq_emod_of_nonneg hd];rfl
def zEJ {α R:Type}{r:Option α}{a:α}(h:r=some a)(k:α→Option R):zAA r k=k a:=by rw[h];rfl
def q175 (c:Cls)(hp:bndP c.1)(hf:0≤c.2.1∧c.2.1≤255)(hl:c.2.2.2.2.1.length≤1048576):F175 c=some (decide (zCH c)):=by
 obtain⟨c0,c1,c2,c3,c4,c5,c6⟩:=c;obtain⟨hf0,hf1⟩:=hf;simp only at hp hf0 hf1 hl;have hH:zCH (c0,c1,c2,c3,c4,c5,c6)↔(zBq c0 c2∧zBq c0 c3∧clsN c0 c3≠clsN c0 c2∧(0≤c1∧c1≤7)∧(∀i,i<c4.length→zBq c0 (c4.getD i 0)∧∀k,k<i→clsN c0 (c4.getD k 0)≠clsN c0 (c4.getD i 0))∧¬(has c1 2∧has c1 4)∧(has c1 1→has c1 4∧clsN c0 c3=[79,98,106])):=Iff.rfl;simp only[F175,q130 _ _ hp,zAB,q107,zAU,zAG]
 by_cases a1:clsN c0 c2=[]
 ·rw[if_pos a1,zAH];exact sd (by rw[hH];simp[zUA.1 a1])
 rw[if_neg a1];have a1:=zDp.1 a1;by_cases a2:clsN c0 c3=[]
 ·rw[if_pos a2,zAH];exact sd (by rw[hH];simp[zUA.1 a2])
 rw[if_neg a2];have a2:=zDp.1 a2;by_cases a3:clsN c0 c3=clsN c0 c2
 ·rw[if_pos a3,zAH];exact sd (by rw[hH];simp[a3])
 rw[if_neg a3];by_cases a4:0≤c1∧c1≤7
 ·rw[if_pos a4,zAC];simp only
  refine zGj (fun i=>(clsN c0 c3,(i:Int),c0,c1,c2,c3,c4,c5,c6)) (clsN c0 c3,c0,c1,c2,c3,c4,c5,c6) false c4.length (fun i=>zBq c0 (c4.getD i 0)∧∀k,k<i→clsN c0 (c4.getD k 0)≠clsN c0 (c4.getD i 0)) rfl ?_ ?_ ?_ ?_
  ·simp only[zIl,if_false]
  ·intro i hi;have h1:(i:Int)<c4.length:=by omega
   have h0:(0:Int)≤i:=by omega
   simp only[h1,h0,if_true,zDt,zAD,zTn]
   rw[zBZ 0 hi];simp only[q130 _ _ hp,zAB]
   by_cases b1:clsN c0 (c4.getD i 0)=[]
   ·rw[if_pos b1,zAH];exact .inr ⟨fun h=>zDp.2 h.1 b1,rfl⟩
   ·rw[if_neg b1];have b1:=zDp.1 b1;refine zXo (F:=(bindE · _)) (fun k=>(clsN c0 c3,(i:Int),(k:Int),c0,c1,c2,c3,c4,c5,c6)) (clsN c0 c3,(i:Int),c0,c1,c2,c3,c4,c5,c6) (.inr (.inr (.inr false))) i (fun k=>clsN c0 (c4.getD k 0)≠clsN c0 (c4.getD i 0)) rfl ?_ ?_ ?_ ?_ ?_
    ·simp only[zIl,if_false]
    ·intro k hk;have k1:(k:Int)<i:=by omega
     have k0:(0:Int)≤k:=by omega
     have hkl:k<c4.length:=by omega
     simp only[k1,k0,h0,if_true,zDt,zAD,zTn]
     rw[zBZ 0 hkl,zBZ 0 hi];simp only[zBZ 0 hi,q130 _ _ hp,zAB,eq_self,zDt,zAt,zAD,zAS]
     by_cases e:clsN c0 (c4.getD k 0)=clsN c0 (c4.getD i 0)
     ·rw[if_pos e];exact .inr ⟨fun h=>h e,rfl⟩
     ·rw[if_neg e,wI (by omega) (by omega)];exact .inl ⟨e,rfl⟩
    ·exact⟨fun h=>h.2,fun h=>⟨b1,h⟩⟩
    ·simp only[zAC]
     rw[wI (by omega) (by omega)];rfl
    ·rfl
  ·intro hall
   have hH':zCH (c0,c1,c2,c3,c4,c5,c6)↔(¬(has c1 2∧has c1 4)∧(has c1 1→has c1 4∧clsN c0 c3=[79,98,106])):=by
    rw[hH];exact⟨fun h=>h.2.2.2.2.2,fun h=>⟨a1,a2,a3,a4,hall,h⟩⟩
   simp only[q108 hf0 hf1 (show(1:Int)≤2 by omega),q108 hf0 hf1 (show(1:Int)≤4 by omega),q108 hf0 hf1 (show(1:Int)≤1 by omega),zAB,zAG]
   by_cases b2:has c1 2<;>by_cases b4:has c1 4<;>by_cases b1:has c1 1<;>simp only[q108 hf0 hf1 (show(1:Int)≤4 by omega),q108 hf0 hf1 (show(1:Int)≤1 by omega),zAB,zAG,b1,b2,b4,if_true,if_false,zAC,zAH]<;>refine sd ?_<;>rw[hH']<;>simp[b1,b2,b4]
  ·intro hall;exact sd (by rw[hH];simp only[zFt,false_iff];exact fun h=>hall h.2.2.2.2.1)
 ·rw[if_neg a4,zAH];exact sd (by rw[hH];simp only[zFt,false_iff];exact fun h=>a4 h.2.2.2.1)
def q162 (c:Cls)(i:Int)(hp:bndP c.1):F162 (c,i)=some (decide ((zAY c.1 i).1=2)):=by
 obtain⟨c0,c1,c2,c3,c4,c5,c6⟩:=c;simp only[F162]
 rw[zCB (q124 c0 i hp.1)]
def q111 (c:Cls)(i:Int)(hp:bndP c.1):F111 (c,i)=some (zAu c.1 i):=by
 obtain⟨c0,c1,c2,c3,c4,c5,c6⟩:=c;simp only[F111]
 rw[zCB (q124 c0 i hp.1)];simp only
 rw[zCB (q124 c0 _ hp.1),zAG];unfold zAu;simp only
 split<;>rfl
def q165 (c:Cls)(hf:0≤c.2.1∧c.2.1≤255):F165 c=some (decide (has c.2.1 1)):=by
 obtain⟨c0,c1,c2,c3,c4,c5,c6⟩:=c;obtain⟨hf0,hf1⟩:=hf;simp only at hf0 hf1;simp only[F165,and1 hf0 hf1,Bool.not_not]
def q164 (c:Cls)(g i:Int)(hp:bndP c.1):F164 (g,c,i)=some (decide (zAu c.1 g=zAu c.1 i),c,i):=by
 obtain⟨c0,c1,c2,c3,c4,c5,c6⟩:=c;simp only[F164,q111 _ _ hp,zAB,eq_self,zDt,zAt,zBs,zAD,zAS]
def q165163 (c:Cls)(s:List Int)(i:Int)(hp:bndP c.1)(hl:s.length≤1048576):∃b,F165163 (s,c,i)=some (b,c,i)∧(b=false↔∀k,k<s.length→zAu c.1 (s.getD k 0)≠zAu c.1 i):=by
 obtain⟨c0,c1,c2,c3,c4,c5,c6⟩:=c;simp only[F165163,F165235]
 have key:=any_r (f:=(fun(x:List Int×Int×Int×Cls×Int)=>cndO (decide (x.2.2.1<x.2.1))
    (grdO (decide (0≤x.2.2.1)) (atO x.1 (Int.toNat x.2.2.1) fun y=>zAA (F164 (y,(x.2.2.2.1.1,x.2.2.2.1.2.1,x.2.2.2.1.2.2.1,x.2.2.2.1.2.2.2.1,x.2.2.2.1.2.2.2.2.1,x.2.2.2.1.2.2.2.2.2.1,x.2.2.2.1.2.2.2.2.2.2),x.2.2.2.2)) fun z=>
    cndO z.1 (some (.inr (.inr (x.2.2.1,z.2.1,z.2.2)))) (some (.inl (x.1,x.2.1,IntKind.wrap .i64 (x.2.2.1+1),z.2.1,z.2.2)))))
    (some (.inr (.inl ((x.2.2.2.1.1,x.2.2.2.1.2.1,x.2.2.2.1.2.2.1,x.2.2.2.1.2.2.2.1,x.2.2.2.1.2.2.2.2.1,x.2.2.2.1.2.2.2.2.2.1,x.2.2.2.1.2.2.2.2.2.2),x.2.2.2.2))))))
  (fun k=>(s,(s.length:Int),(k:Int),(c0,c1,c2,c3,c4,c5,c6),i)) ((c0,c1,c2,c3,c4,c5,c6),i) (fun k=>((k:Int),(c0,c1,c2,c3,c4,c5,c6),i)) s.length (fun k=>zAu c0 (s.getD k 0)=zAu c0 i) (x0:=(s,(s.length:Int),0,(c0,c1,c2,c3,c4,c5,c6),i)) (k:=fun x=>some ((-1:Int),x.1,x.2)) rfl ?_ ?_
 ·rcases key with⟨h1,h2⟩|⟨k,h1,h2,h3⟩
  ·refine⟨false,?_,iff_of_true rfl h1⟩;rw[zEJ h2];rfl
  ·refine⟨true,?_,iff_of_false (by simp) fun h=>h k h1 h2⟩;rw[zEJ h3];simp
 ·simp only[zIl,zDf,zAI]
 ·intro k hk;have k1:(k:Int)<s.length:=by omega
  have k0:(0:Int)≤k:=by omega
  simp only[k1,k0,zDt,zAJ,zAD,zTn]
  rw[zBZ 0 hk];have hq:=q164 (c0,c1,c2,c3,c4,c5,c6) (s.getD k 0) i hp;simp only at hq;rw[hq];simp only[zAB,zAG]
  rw[wI (by omega) (by omega)];by_cases e:zAu c0 (s.getD k 0)=zAu c0 i
  ·rw[if_pos e];exact .inl ⟨e,rfl⟩
  ·rw[if_neg e];exact .inr ⟨e,rfl⟩
end Go.Proofs.YtdpapeledldifaaGreat
end
section
namespace Go.Stow
def zEb {α:Type}{l:List α}{i k:Nat}{d:α}(h:k<i):(l.take i).getD k d=l.getD k d:=by
 rw[List.getD_eq_getElem?_getD,List.getD_eq_getElem?_getD,List.getElem?_take,if_pos h]
end Go.Stow
namespace Go.Proofs.YtdpapeledldifaaGreat
open Go Go.AM Go.TM Go.Stow
def q83 (c:Cls)(hp:bndP c.1)(hf:0≤c.2.1∧c.2.1≤255)(hl:c.2.2.2.2.1.length≤1048576)(hok:zKe c.1):F83 c=some (decide (zCH c)):=by
 obtain⟨c0,c1,c2,c3,c4,c5,c6⟩:=c;obtain⟨hf0,hf1⟩:=hf;simp only at hp hf0 hf1 hl hok;have hH:zCH (c0,c1,c2,c3,c4,c5,c6)↔(zBq c0 c2∧zBq c0 c3∧clsN c0 c3≠clsN c0 c2∧(0≤c1∧c1≤7)∧(∀i,i<c4.length→zBq c0 (c4.getD i 0)∧∀k,k<i→clsN c0 (c4.getD k 0)≠clsN c0 (c4.getD i 0))∧¬(has c1 2∧has c1 4)∧(has c1 1→has c1 4∧clsN c0 c3=[79,98,106])):=Iff.rfl;have z162:∀i,F162 ((c0,c1,c2,c3,c4,c5,c6),i)=some (decide ((zAY c0 i).1=2)):=fun i=>q162 (c0,c1,c2,c3,c4,c5,c6) i hp
 have z111:∀i,F111 ((c0,c1,c2,c3,c4,c5,c6),i)=some (zAu c0 i):=fun i=>q111 (c0,c1,c2,c3,c4,c5,c6) i hp
 simp only[F83,z162,z111,zAB,zAU,zAG,eq_self,zDt,zAt,zBs,zAD,zAS]
 by_cases a1:(zAY c0 c2).1=2
 ·rw[if_pos a1];have a1:=hok.cls.2 a1;by_cases a2:(zAY c0 c3).1=2
  ·rw[if_pos a2];have a2:=hok.cls.2 a2;rw[zDg a1,zDg a2];by_cases a3:clsN c0 c3=clsN c0 c2
   ·rw[if_pos a3,zAH];exact sd (by rw[hH];simp[a3])
   ·rw[if_neg a3,zAC];simp only
    refine zGj (fun i=>(c4,(c4.length:Int),(i:Int),c0,c1,c2,c3,c4,c5,c6)) (c0,c1,c2,c3,c4,c5,c6) false c4.length (fun i=>(zAY c0 (c4.getD i 0)).1=2∧∀k,k<i→zAu c0 (c4.getD k 0)≠zAu c0 (c4.getD i 0)) rfl ?_ ?_ ?_ ?_
    ·simp only[zIl,if_false]
    ·intro i hi;have h1:(i:Int)<c4.length:=by omega
     have h0:(0:Int)≤i:=by omega
     have h2:(i:Int)≤c4.length:=by omega
     simp only[h1,h0,h2,if_true,zDt,zBs,zAD,zTn,List.drop_zero]
     rw[zBZ 0 hi];simp only[z162,zAB,zAG,zAU]
     by_cases b1:(zAY c0 (c4.getD i 0)).1=2
     ·rw[if_pos b1];obtain⟨b,e,hb⟩:=q165163 (c0,c1,c2,c3,c4,c5,c6) (c4.take i) (c4.getD i 0) hp (by simp only[zLt];omega);rw[e];simp only[zAB]
      have hbi:b=false↔∀k,k<i→zAu c0 (c4.getD k 0)≠zAu c0 (c4.getD i 0):=by
       rw[hb];simp only[zLt,Nat.min_eq_left (Nat.le_of_lt hi)]
       exact⟨fun h k hk=>by have:=h k hk;rwa[zEb hk]at this,fun h k hk=>by rw[zEb hk];exact h k hk⟩
      cases b with
      | true=>
        exact .inr ⟨fun h=>(by cases hbi.2 h.2),rfl⟩
      | false=>
        refine .inl ⟨⟨b1,hbi.1 rfl⟩,?_⟩;simp only[zAI,zAC]
        rw[wI (by omega) (by omega)];rfl
     ·rw[if_neg b1];exact .inr ⟨fun h=>b1 h.1,rfl⟩
    ·intro hall
     have hall':∀i,i<c4.length→zBq c0 (c4.getD i 0)∧∀k,k<i→clsN c0 (c4.getD k 0)≠clsN c0 (c4.getD i 0):=fun i hi=>
      ⟨hok.cls.2 (hall i hi).1,fun k hk=>by
       have:=(hall i hi).2 k hk
       rwa[zDg (hok.cls.2 (hall i hi).1),zDg (hok.cls.2 (hall k (by omega)).1)]at this⟩
     have hH':zCH (c0,c1,c2,c3,c4,c5,c6)↔((0≤c1∧c1≤7)∧¬(has c1 2∧has c1 4)∧(has c1 1→has c1 4∧clsN c0 c3=[79,98,106])):=by
      rw[hH];exact⟨fun h=>⟨h.2.2.2.1,h.2.2.2.2.2⟩,fun h=>⟨a1,a2,a3,h.1,hall',h.2⟩⟩
     simp only[eq_self,zDt,zAD,zAS,q89,zAB,and2p hf0 hf1,and4p hf0 hf1,q165 (c0,c1,c2,c3,c4,c5,c6) ⟨hf0,hf1⟩,z111,Bool.not_not,zAU,zAG,zDg a2]
     by_cases b0:0≤c1∧c1≤7
     ·rw[if_pos b0];by_cases b2:has c1 2<;>by_cases b4:has c1 4<;>by_cases b1:has c1 1<;>simp only[b1,b2,b4,not_true,not_false_iff,if_true,if_false]<;>refine sd ?_<;>rw[hH']<;>simp[b0,b1,b2,b4]
     ·rw[if_neg b0];refine sd ?_;rw[hH'];simp[b0]
    ·intro hall;refine sd ?_;rw[hH];simp only[zFt,false_iff]
     refine fun h=>hall fun i hi=>⟨(h.2.2.2.2.1 i hi).1.1,fun k hk=>?_⟩
     rw[zDg (h.2.2.2.2.1 i hi).1,zDg (h.2.2.2.2.1 k (by omega)).1];exact(h.2.2.2.2.1 i hi).2 k hk
  ·rw[if_neg a2,zAH];exact sd (by rw[hH];simp only[zFt,false_iff];exact fun h=>a2 h.2.1.1)
 ·rw[if_neg a1,zAH];exact sd (by rw[hH];simp only[zFt,false_iff];exact fun h=>a1 h.1.1)
def q176 (c:Cls)(hp:bndP c.1)(hf:0≤c.2.1∧c.2.1≤255)(hl:c.2.2.2.2.2.1.length≤1048576):F176 c=some (decide (zEK c)):=by
 obtain⟨c0,c1,c2,c3,c4,c5,c6⟩:=c;obtain⟨hf0,hf1⟩:=hf;simp only at hp hf0 hf1 hl;simp only[F176,zAG]
 refine zGj (fun i=>((i:Int),c0,c1,c2,c3,c4,c5,c6)) () false c5.length (FldOk (c0,c1,c2,c3,c4,c5,c6)) rfl ?_ ?_ ?_ ?_
 ·simp only[zIl,if_false]
 ·intro i hi;have h1:(i:Int)<c5.length:=by omega
  have h0:(0:Int)≤i:=by omega
  simp only[h1,h0,if_true,zDt,zAD,zTn]
  rw[zBZ (0,0,0) hi];have hF:FldOk (c0,c1,c2,c3,c4,c5,c6) i↔(zBJ c0 (c5.getD i (0,0,0)).2.1 Nm∧zBJ c0 (c5.getD i (0,0,0)).2.2 Tok∧(0≤(c5.getD i (0,0,0)).1∧(c5.getD i (0,0,0)).1≤3)∧(has c1 1→(c5.getD i (0,0,0)).1=1)∧∀k,k<i→txt c0 (c5.getD k (0,0,0)).2.1≠txt c0 (c5.getD i (0,0,0)).2.1):=Iff.rfl;rw[hF];generalize c5.getD i (0,0,0)=x;simp only[q131 _ _ hp,n127 _ (zDX hp _),n128 _ (zDX hp _),q107,zAB,zAU,zAG]
  have t1:Nm (txt c0 x.2.1)↔zBJ c0 x.2.1 Nm:=zIC zHr;have t2:Tok (txt c0 x.2.2)↔zBJ c0 x.2.2 Tok:=zIC zDd;by_cases b1:Nm (txt c0 x.2.1)
  ·rw[if_pos b1];by_cases b2:Tok (txt c0 x.2.2)
   ·rw[if_pos b2];by_cases b3:0≤x.1∧x.1≤3
    ·rw[if_pos b3,zAC];simp only[q108 hf0 hf1 (show(1:Int)≤1 by omega),zAB,zAG]
     by_cases b4:has c1 1→x.1=1
     ·rw[show(if has c1 1 then if x.1=1 then some (Sum.inl ((i:Int),(c0,c1,c2,c3,c4,c5,c6),x.1,x.2.1,x.2.2))else some (Sum.inr (Sum.inr (Sum.inr (Sum.inr false))))else some (Sum.inl ((i:Int),(c0,c1,c2,c3,c4,c5,c6),x.1,x.2.1,x.2.2)):Option ((Int×Cls×Int×Int×Int)⊕((Int×Cls)⊕((Int×Cls)⊕(Unit⊕Bool)))))=some (Sum.inl ((i:Int),(c0,c1,c2,c3,c4,c5,c6),x.1,x.2.1,x.2.2))by
       by_cases g:has c1 1
       ·rw[if_pos g,if_pos (b4 g)]
       ·rw[if_neg g],zAC]
      simp only
      refine zXo (F:=(bindE · _)) (fun k=>((i:Int),(k:Int),(c0,c1,c2,c3,c4,c5,c6),x.1,x.2.1,x.2.2)) ((i:Int),c0,c1,c2,c3,c4,c5,c6) (.inr (.inr (.inr false))) i (fun k=>txt c0 (c5.getD k (0,0,0)).2.1≠txt c0 x.2.1) rfl ?_ ?_ ?_ ?_ ?_
      ·simp only[zIl,if_false]
      ·intro k hk;have k1:(k:Int)<i:=by omega
       have k0:(0:Int)≤k:=by omega
       have hkl:k<c5.length:=by omega
       simp only[k1,k0,if_true,zDt,zAD,zTn]
       rw[zBZ (0,0,0) hkl];simp only[q131 _ _ hp,zAB,eq_self,zDt,zAD,zAS]
       by_cases e:txt c0 (c5.getD k (0,0,0)).2.1=txt c0 x.2.1
       ·rw[if_pos e];exact .inr ⟨fun h=>h e,rfl⟩
       ·rw[if_neg e,wI (by omega) (by omega)];exact .inl ⟨e,rfl⟩
      ·exact⟨fun h=>h.2.2.2.2,fun h=>⟨t1.1 b1,t2.1 b2,b3,b4,h⟩⟩
      ·simp only[zAC]
       rw[wI (by omega) (by omega)];rfl
      ·rfl
     ·have g:has c1 1:=Classical.byContradiction fun h=>b4 fun h'=>absurd h' h
      have g2:¬x.1=1:=fun h=>b4 fun _=>h
      rw[if_pos g,if_neg g2];exact .inr ⟨fun h=>g2 (h.2.2.2.1 g),rfl⟩
    ·rw[if_neg b3];exact .inr ⟨fun h=>b3 h.2.2.1,rfl⟩
   ·rw[if_neg b2];exact .inr ⟨fun h=>b2 (t2.2 h.2.1),rfl⟩
  ·rw[if_neg b1];exact .inr ⟨fun h=>b1 (t1.2 h.1),rfl⟩
 ·intro hall;exact sd (iff_of_true rfl hall)
 ·intro hall;exact sd (iff_of_false (by simp) hall)
end Go.Proofs.YtdpapeledldifaaGreat
end
section
namespace Go.Stow
def zLj (c:ClsP)(i:Nat):Prop :=
 let f:=c.2.2.2.2.2.1.getD i (0,0,0)
 zBJ c.1 f.2.1 Nm∧zBJ c.1 f.2.2 Tok∧(0≤f.1∧f.1≤3)∧(has c.2.1 1→f.1=1)∧∀k,k<i→zAu c.1 (c.2.2.2.2.2.1.getD k (0,0,0)).2.1≠zAu c.1 f.2.1
noncomputable instance (c:ClsP)(i:Nat):Decidable (zLj c i):=Classical.propDecidable _
def flds_iff (c:ClsP):(∀i,i<c.2.2.2.2.2.1.length→zLj c i)↔zEK c:=by
 constructor
 ·intro h i hi;obtain⟨h1,h2,h3,h4,h5⟩:=h i hi;refine⟨h1,h2,h3,h4,fun k hk=>?_⟩;have hk':=h k (by omega);have:=h5 k hk;rwa[zAy h1.1,zAy hk'.1.1]at this
 ·intro h i hi;obtain⟨h1,h2,h3,h4,h5⟩:=h i hi;refine⟨h1,h2,h3,h4,fun k hk=>?_⟩;have hk':=h k (by omega);have:=h5 k hk;rwa[zAy h1.1,zAy hk'.1.1]
def zLi (c:ClsP)(i:Nat):Prop :=
 let m:=c.2.2.2.2.2.2.getD i mth0
 zBJ c.1 m.2.1 Nm∧zBJ c.1 m.2.2.1 Dsc∧zER c m ∧
 ∀k,k<i→¬(zAu c.1 (c.2.2.2.2.2.2.getD k mth0).2.1=zAu c.1 m.2.1∧zAu c.1 (c.2.2.2.2.2.2.getD k mth0).2.2.1=zAu c.1 m.2.2.1)
noncomputable instance (c:ClsP)(i:Nat):Decidable (zLi c i):=Classical.propDecidable _
def mths_iff (c:ClsP):(∀i,i<c.2.2.2.2.2.2.length→zLi c i)↔zFO c:=by
 constructor
 ·intro h i hi;obtain⟨h1,h2,h3,h5⟩:=h i hi;refine⟨h1,h2,h3,fun k hk=>?_⟩;have hk':=h k (by omega);have:=h5 k hk;rwa[zAy h1.1,zAy hk'.1.1,zAy h2.1,zAy hk'.2.1.1]at this
 ·intro h i hi;obtain⟨h1,h2,h3,h5⟩:=h i hi;refine⟨h1,h2,h3,fun k hk=>?_⟩;have hk':=h k (by omega);have:=h5 k hk;rwa[zAy h1.1,zAy hk'.1.1,zAy h2.1,zAy hk'.2.1.1]
end Go.Stow
namespace Go.Proofs.YtdpapeledldifaaGreat
open Go Go.AM Go.TM Go.Stow
def q167 (c:Cls)(g f:Fld)(hp:bndP c.1):F167 (g,c,f)=some (decide (zAu c.1 g.2.1=zAu c.1 f.2.1),c,f):=by
 obtain⟨c0,c1,c2,c3,c4,c5,c6⟩:=c;obtain⟨g0,g1,g2⟩:=g;obtain⟨f0,f1,f2⟩:=f;have z111:∀i,F111 ((c0,c1,c2,c3,c4,c5,c6),i)=some (zAu c0 i):=fun i=>q111 (c0,c1,c2,c3,c4,c5,c6) i hp
 simp only[F167,z111,zAB,eq_self,zDt,zAt,zBs,zAD,zAS]
def q168166 (c:Cls)(s:List Fld)(f:Fld)(hp:bndP c.1)(hl:s.length≤1048576):∃b,F168166 (s,c,f)=some (b,c,f)∧(b=false↔∀k,k<s.length→zAu c.1 (s.getD k (0,0,0)).2.1≠zAu c.1 f.2.1):=by
 obtain⟨c0,c1,c2,c3,c4,c5,c6⟩:=c;obtain⟨f0,f1,f2⟩:=f;simp only[F168166,F168236]
 have key:=any_r (f:=(fun(x:List Fld×Int×Int×Cls×Fld)=>cndO (decide (x.2.2.1<x.2.1))
    (grdO (decide (0≤x.2.2.1)) (atO x.1 (Int.toNat x.2.2.1) fun y=>zAA (F167 ((y.1,y.2.1,y.2.2),(x.2.2.2.1.1,x.2.2.2.1.2.1,x.2.2.2.1.2.2.1,x.2.2.2.1.2.2.2.1,x.2.2.2.1.2.2.2.2.1,x.2.2.2.1.2.2.2.2.2.1,x.2.2.2.1.2.2.2.2.2.2),x.2.2.2.2.1,x.2.2.2.2.2.1,x.2.2.2.2.2.2)) fun z=>
    cndO z.1 (some (.inr (.inr (x.2.2.1,z.2.1,z.2.2)))) (some (.inl (x.1,x.2.1,IntKind.wrap .i64 (x.2.2.1+1),z.2.1,z.2.2)))))
    (some (.inr (.inl ((x.2.2.2.1.1,x.2.2.2.1.2.1,x.2.2.2.1.2.2.1,x.2.2.2.1.2.2.2.1,x.2.2.2.1.2.2.2.2.1,x.2.2.2.1.2.2.2.2.2.1,x.2.2.2.1.2.2.2.2.2.2),x.2.2.2.2.1,x.2.2.2.2.2.1,x.2.2.2.2.2.2))))))
  (fun k=>(s,(s.length:Int),(k:Int),(c0,c1,c2,c3,c4,c5,c6),f0,f1,f2)) ((c0,c1,c2,c3,c4,c5,c6),f0,f1,f2) (fun k=>((k:Int),(c0,c1,c2,c3,c4,c5,c6),f0,f1,f2)) s.length (fun k=>zAu c0 (s.getD k (0,0,0)).2.1=zAu c0 f1) (x0:=(s,(s.length:Int),0,(c0,c1,c2,c3,c4,c5,c6),f0,f1,f2)) (k:=fun x=>some ((-1:Int),x.1,x.2)) rfl ?_ ?_
 ·rcases key with⟨h1,h2⟩|⟨k,h1,h2,h3⟩
  ·refine⟨false,?_,iff_of_true rfl h1⟩;rw[zEJ h2];rfl
  ·refine⟨true,?_,iff_of_false (by simp) fun h=>h k h1 h2⟩;rw[zEJ h3];simp
 ·simp only[zIl,zDf,zAI]
 ·intro k hk;have k1:(k:Int)<s.length:=by omega
  have k0:(0:Int)≤k:=by omega
  simp only[k1,k0,zDt,zAJ,zAD,zTn]
  rw[zBZ (0,0,0) hk];have hq:=q167 (c0,c1,c2,c3,c4,c5,c6) (s.getD k (0,0,0)) (f0,f1,f2) hp;simp only at hq;refine(show _=_∧_∨_ from ?_);rw[hq];simp only[zAB,zAG]
  rw[wI (by omega) (by omega)];by_cases e:zAu c0 (s.getD k (0,0,0)).2.1=zAu c0 f1
  ·rw[if_pos e];exact .inl ⟨e,rfl⟩
  ·rw[if_neg e];exact .inr ⟨e,rfl⟩
def q84 (c:Cls)(i:Nat)(hp:bndP c.1)(hf:0≤c.2.1∧c.2.1≤255)(hl:c.2.2.2.2.2.1.length≤1048576)(hi:i<c.2.2.2.2.2.1.length):F84 (c,(i:Int))=some (decide (zLj c i)):=by
 obtain⟨c0,c1,c2,c3,c4,c5,c6⟩:=c;obtain⟨hf0,hf1⟩:=hf;simp only at hp hf0 hf1 hl hi;have h0:(0:Int)≤i:=by omega
 have h2:(i:Int)≤c5.length:=by omega
 have hF:zLj (c0,c1,c2,c3,c4,c5,c6) i↔(zBJ c0 (c5.getD i (0,0,0)).2.1 Nm∧zBJ c0 (c5.getD i (0,0,0)).2.2 Tok∧(0≤(c5.getD i (0,0,0)).1∧(c5.getD i (0,0,0)).1≤3)∧(has c1 1→(c5.getD i (0,0,0)).1=1)∧∀k,k<i→zAu c0 (c5.getD k (0,0,0)).2.1≠zAu c0 (c5.getD i (0,0,0)).2.1):=Iff.rfl;simp only[F84,h0,h2,zDt,zBs,zAD,zTn]
 rw[zBZ (0,0,0) hi];generalize c5.getD i (0,0,0)=x at hF ⊢;simp only[zTQ _ _ hp,zWZ _ _ hp,q89,q165 (c0,c1,c2,c3,c4,c5,c6) ⟨hf0,hf1⟩,zAB,zAU,zAG]
 by_cases b1:zBJ c0 x.2.1 Nm
 ·rw[if_pos b1];by_cases b2:zBJ c0 x.2.2 Tok
  ·rw[if_pos b2];by_cases b3:0≤x.1∧x.1≤3
   ·rw[if_pos b3];by_cases b4:has c1 1→x.1=1
    ·rw[show(if has c1 1 then if x.1=1 then some (Sum.inl ((i:Int),(c0,c1,c2,c3,c4,c5,c6),x.1,x.2.1,x.2.2))else some (Sum.inr false)else some (Sum.inl ((i:Int),(c0,c1,c2,c3,c4,c5,c6),x.1,x.2.1,x.2.2)):Option ((Int×Cls×Int×Int×Int)⊕Bool))=some (Sum.inl ((i:Int),(c0,c1,c2,c3,c4,c5,c6),x.1,x.2.1,x.2.2))by
      by_cases g:has c1 1
      ·rw[if_pos g,if_pos (b4 g)]
      ·rw[if_neg g],zAC]
     obtain⟨b,e,hb⟩:=q168166 (c0,c1,c2,c3,c4,c5,c6) (c5.take i) x hp (by simp only[zLt];omega);obtain⟨x0,x1,x2⟩:=x;simp only[h0,h2,zDt,zBs,zAD,zTn,List.drop_zero]
     rw[e];simp only[zAB]
     have hbi:b=false↔∀k,k<i→zAu c0 (c5.getD k (0,0,0)).2.1≠zAu c0 x1:=by
      rw[hb];simp only[zLt,Nat.min_eq_left (Nat.le_of_lt hi)]
      exact⟨fun h k hk=>by have:=h k hk;rwa[zEb hk]at this,fun h k hk=>by rw[zEb hk];exact h k hk⟩
     refine sd ?_;rw[hF];simp only[Bool.not_eq_true',hbi]
     exact⟨fun h=>⟨b1,b2,b3,b4,h⟩,fun h=>h.2.2.2.2⟩
    ·have g:has c1 1:=Classical.byContradiction fun h=>b4 fun h'=>absurd h' h
     have g2:¬x.1=1:=fun h=>b4 fun _=>h
     rw[if_pos g,if_neg g2,zAH];exact sd (by rw[hF];exact iff_of_false (by simp) fun h=>b4 h.2.2.2.1)
   ·rw[if_neg b3,zAH];exact sd (by rw[hF];exact iff_of_false (by simp) fun h=>b3 h.2.2.1)
  ·rw[if_neg b2,zAH];exact sd (by rw[hF];exact iff_of_false (by simp) fun h=>b2 h.2.1)
 ·rw[if_neg b1,zAH];exact sd (by rw[hF];exact iff_of_false (by simp) fun h=>b1 h.1)
def q244 (c:Cls)(m:Mth)(hp:bndP c.1)(hf:0≤c.2.1∧c.2.1≤255)(hm:0≤m.1∧m.1≤255):F244 (c,m)=some (decide (zER c m)):=by
 obtain⟨c0,c1,c2,c3,c4,c5,c6⟩:=c;obtain⟨m0,m1,m2,m3,m4,m5,m6,m7⟩:=m;obtain⟨hf0,hf1⟩:=hf;obtain⟨hm0,hm1⟩:=hm;simp only at hp hf0 hf1 hm0 hm1;have hF:zER (c0,c1,c2,c3,c4,c5,c6) (m0,m1,m2,m3,m4,m5,m6,m7)↔((0≤m0∧m0≤15)∧(txt c0 m1=[98,101,103,105,110]→m0=1∧txt c0 m2=[40,41,86])∧(has m0 8→m0=8∧has c1 4)∧(¬has m0 8→has c1 1→m0=1)):=Iff.rfl;simp only[F244,q131 _ _ hp,q107,zAB,zAU,zAG]
 by_cases b1:0≤m0∧m0≤15
 ·rw[if_pos b1];have e8:=q108 hm0 hm1 (show(1:Int)≤8 by omega);have e4:=q108 hf0 hf1 (show(1:Int)≤4 by omega);have e1:=q108 hf0 hf1 (show(1:Int)≤1 by omega)
  have go:(txt c0 m1=[98,101,103,105,110]→m0=1∧txt c0 m2=[40,41,86])→(if has m0 8 then if m0=8 then some (decide (has c1 4))else some false else if has c1 1 then some (decide (m0=1))else some true:Option Bool)=some (decide (zER (c0,c1,c2,c3,c4,c5,c6) (m0,m1,m2,m3,m4,m5,m6,m7))):=by
   intro b2;by_cases b5:has m0 8
   ·rw[if_pos b5];by_cases b8:m0=8
    ·rw[if_pos b8];refine sd ?_;rw[hF,decide_eq_true_iff];exact⟨fun h=>⟨b1,b2,fun _=>⟨b8,h⟩,fun h=>absurd b5 h⟩,fun h=>(h.2.2.1 b5).2⟩
    ·rw[if_neg b8];exact sd (by rw[hF];exact iff_of_false (by simp) fun h=>b8 (h.2.2.1 b5).1)
   ·rw[if_neg b5];by_cases b7:has c1 1
    ·rw[if_pos b7];refine sd ?_;rw[hF,decide_eq_true_iff];exact⟨fun h=>⟨b1,b2,fun h'=>absurd h' b5,fun _ _=>h⟩,fun h=>h.2.2.2 b5 b7⟩
    ·rw[if_neg b7];exact sd (by rw[hF];exact iff_of_true rfl ⟨b1,b2,fun h'=>absurd h' b5,fun _ h=>absurd h b7⟩)
  by_cases b2:txt c0 m1=[98,101,103,105,110]
  ·rw[if_pos b2];by_cases b3:m0=1
   ·rw[if_pos b3];by_cases b4:txt c0 m2=[40,41,86]
    ·rw[if_pos b4,zAC];simp only[e8,e4,e1,zAB,zAG]
     exact go fun _=>⟨b3,b4⟩
    ·rw[if_neg b4,zAH];exact sd (by rw[hF];exact iff_of_false (by simp) fun h=>b4 (h.2.1 b2).2)
   ·rw[if_neg b3,zAH];exact sd (by rw[hF];exact iff_of_false (by simp) fun h=>b3 (h.2.1 b2).1)
  ·rw[if_neg b2,zAC];simp only[e8,e4,e1,zAB,zAG]
   exact go fun h=>absurd h b2
 ·rw[if_neg b1];exact sd (by rw[hF];exact iff_of_false (by simp) fun h=>b1 h.1)
def q177 (c:Cls)(hp:bndP c.1)(hf:0≤c.2.1∧c.2.1≤255)(hl:c.2.2.2.2.2.2.length≤1048576)(hm:∀ m∈c.2.2.2.2.2.2,0≤m.1∧m.1≤255):F177 c=some (decide (zFO c)):=by
 obtain⟨c0,c1,c2,c3,c4,c5,c6⟩:=c;simp only at hp hl hm;simp only[F177,zAG]
 refine zGj (fun i=>((i:Int),c0,c1,c2,c3,c4,c5,c6)) () false c6.length (MthOk (c0,c1,c2,c3,c4,c5,c6)) rfl ?_ ?_ ?_ ?_
 ·simp only[zIl,if_false]
 ·intro i hi;have h1:(i:Int)<c6.length:=by omega
  have h0:(0:Int)≤i:=by omega
  have hmi:0≤(c6.getD i mth0).1∧(c6.getD i mth0).1≤255:=by
   rw[List.getD_eq_getElem?_getD,zGe hi];exact hm _ (List.getElem_mem hi)
  simp only[h1,h0,if_true,zDt,zAD,zTn]
  rw[zBZ mth0 hi]
  have hF:MthOk (c0,c1,c2,c3,c4,c5,c6) i↔(zBJ c0 (c6.getD i mth0).2.1 Nm∧zBJ c0 (c6.getD i mth0).2.2.1 Dsc∧zER (c0,c1,c2,c3,c4,c5,c6) (c6.getD i mth0) ∧
   ∀k,k<i→¬(txt c0 (c6.getD k mth0).2.1=txt c0 (c6.getD i mth0).2.1∧txt c0 (c6.getD k mth0).2.2.1=txt c0 (c6.getD i mth0).2.2.1)):=Iff.rfl
  rw[hF];generalize c6.getD i mth0=x at hmi;have z244:F244 ((c0,c1,c2,c3,c4,c5,c6),x.1,x.2.1,x.2.2.1,x.2.2.2.1,x.2.2.2.2.1,x.2.2.2.2.2.1,x.2.2.2.2.2.2.1,x.2.2.2.2.2.2.2)=some (decide (zER (c0,c1,c2,c3,c4,c5,c6) x)):=q244 (c0,c1,c2,c3,c4,c5,c6) x hp hf hmi;simp only[q131 _ _ hp,n127 _ (zDX hp _),n129 _ (zDX hp _),z244,zAB,zAU,zAG]
  have t1:Nm (txt c0 x.2.1)↔zBJ c0 x.2.1 Nm:=zIC zHr;have t2:Dsc (txt c0 x.2.2.1)↔zBJ c0 x.2.2.1 Dsc:=zIC zGY;by_cases b1:Nm (txt c0 x.2.1)
  ·rw[if_pos b1];by_cases b2:Dsc (txt c0 x.2.2.1)
   ·rw[if_pos b2];by_cases b3:zER (c0,c1,c2,c3,c4,c5,c6) x
    ·rw[if_pos b3,zAC];simp only
     refine zXo (F:=(bindE · _)) (fun k=>((i:Int),(k:Int),(c0,c1,c2,c3,c4,c5,c6),x.1,x.2.1,x.2.2.1,x.2.2.2.1,x.2.2.2.2.1,x.2.2.2.2.2.1,x.2.2.2.2.2.2.1,x.2.2.2.2.2.2.2)) ((i:Int),c0,c1,c2,c3,c4,c5,c6) (.inr (.inr (.inr false))) i (fun k=>¬(txt c0 (c6.getD k mth0).2.1=txt c0 x.2.1∧txt c0 (c6.getD k mth0).2.2.1=txt c0 x.2.2.1)) rfl ?_ ?_ ?_ ?_ ?_
     ·simp only[zIl,if_false]
     ·intro k hk;have k1:(k:Int)<i:=by omega
      have k0:(0:Int)≤k:=by omega
      have hkl:k<c6.length:=by omega
      simp only[k1,k0,if_true,zDt,zAD,zTn]
      rw[zBZ mth0 hkl];simp only[zBZ mth0 hkl,q131 _ _ hp,zAB,eq_self,zDt,zAD,zAS]
      by_cases e:txt c0 (c6.getD k mth0).2.1=txt c0 x.2.1
      ·rw[if_pos e];by_cases e2:txt c0 (c6.getD k mth0).2.2.1=txt c0 x.2.2.1
       ·rw[if_pos e2,zAH];exact .inr ⟨fun h=>h ⟨e,e2⟩,rfl⟩
       ·rw[if_neg e2,zAC];simp only
        rw[wI (by omega) (by omega)];exact .inl ⟨fun h=>e2 h.2,rfl⟩
      ·rw[if_neg e,zAC];simp only
       rw[wI (by omega) (by omega)];exact .inl ⟨fun h=>e h.1,rfl⟩
     ·exact⟨fun h=>h.2.2.2,fun h=>⟨t1.1 b1,t2.1 b2,b3,h⟩⟩
     ·simp only[zAC]
      rw[wI (by omega) (by omega)];rfl
     ·rfl
    ·rw[if_neg b3];exact .inr ⟨fun h=>b3 h.2.2.1,rfl⟩
   ·rw[if_neg b2];exact .inr ⟨fun h=>b2 (t2.2 h.2.1),rfl⟩
  ·rw[if_neg b1];exact .inr ⟨fun h=>b1 (t1.2 h.1),rfl⟩
 ·intro hall;exact sd (iff_of_true rfl hall)
 ·intro hall;exact sd (iff_of_false (by simp) hall)
end Go.Proofs.YtdpapeledldifaaGreat
end
section
namespace Go.TM
def zUw {R:Type}(a:Option R):zBK a a=a:=by unfold zBK;rw[if_pos rfl]
end Go.TM
namespace Go.Proofs.YtdpapeledldifaaGreat
open Go Go.AM Go.TM Go.Stow
def q169 (c:Cls)(g:Mth)(a b:List UInt8)(hp:bndP c.1):F169 (g,c,a,b)=some (decide (zAu c.1 g.2.1=a∧zAu c.1 g.2.2.1=b),c,a,b):=by
 obtain⟨c0,c1,c2,c3,c4,c5,c6⟩:=c;obtain⟨g0,g1,g2,g3,g4,g5,g6,g7⟩:=g;have z111:∀i,F111 ((c0,c1,c2,c3,c4,c5,c6),i)=some (zAu c0 i):=fun i=>q111 (c0,c1,c2,c3,c4,c5,c6) i hp
 simp only[F169,z111,zAB,eq_self,zDt,zAD,zAS,zAG]
 by_cases e:zAu c0 g1=a
 ·rw[if_pos e];simp[e]
 ·rw[if_neg e];simp[e]
def q170168 (c:Cls)(s:List Mth)(a b:List UInt8)(hp:bndP c.1)(hl:s.length≤1048576):∃r,F170168 (s,c,a,b)=some (r,c,a,b)∧(r=false↔∀k,k<s.length→¬(zAu c.1 (s.getD k mth0).2.1=a∧zAu c.1 (s.getD k mth0).2.2.1=b)):=by
 obtain⟨c0,c1,c2,c3,c4,c5,c6⟩:=c;simp only[F170168,F170237]
 have key:=any_r (f:=(fun(x:List Mth×Int×Int×Cls×List UInt8×List UInt8)=>cndO (decide (x.2.2.1<x.2.1))
    (grdO (decide (0≤x.2.2.1)) (atO x.1 (Int.toNat x.2.2.1) fun y=>zAA (F169 ((y.1,y.2.1,y.2.2.1,y.2.2.2.1,y.2.2.2.2.1,y.2.2.2.2.2.1,y.2.2.2.2.2.2.1,y.2.2.2.2.2.2.2),(x.2.2.2.1.1,x.2.2.2.1.2.1,x.2.2.2.1.2.2.1,x.2.2.2.1.2.2.2.1,x.2.2.2.1.2.2.2.2.1,x.2.2.2.1.2.2.2.2.2.1,x.2.2.2.1.2.2.2.2.2.2),x.2.2.2.2.1,x.2.2.2.2.2)) fun z=>
    cndO z.1 (some (.inr (.inr (x.2.2.1,z.2.1,z.2.2)))) (some (.inl (x.1,x.2.1,IntKind.wrap .i64 (x.2.2.1+1),z.2.1,z.2.2)))))
    (some (.inr (.inl ((x.2.2.2.1.1,x.2.2.2.1.2.1,x.2.2.2.1.2.2.1,x.2.2.2.1.2.2.2.1,x.2.2.2.1.2.2.2.2.1,x.2.2.2.1.2.2.2.2.2.1,x.2.2.2.1.2.2.2.2.2.2),x.2.2.2.2.1,x.2.2.2.2.2))))))
  (fun k=>(s,(s.length:Int),(k:Int),(c0,c1,c2,c3,c4,c5,c6),a,b)) ((c0,c1,c2,c3,c4,c5,c6),a,b) (fun k=>((k:Int),(c0,c1,c2,c3,c4,c5,c6),a,b)) s.length (fun k=>zAu c0 (s.getD k mth0).2.1=a∧zAu c0 (s.getD k mth0).2.2.1=b) (x0:=(s,(s.length:Int),0,(c0,c1,c2,c3,c4,c5,c6),a,b)) (k:=fun x=>some ((-1:Int),x.1,x.2)) rfl ?_ ?_
 ·rcases key with⟨h1,h2⟩|⟨k,h1,h2,h3⟩
  ·refine⟨false,?_,iff_of_true rfl h1⟩;rw[zEJ h2];rfl
  ·refine⟨true,?_,iff_of_false (by simp) fun h=>h k h1 h2⟩;rw[zEJ h3];simp
 ·simp only[zIl,zDf,zAI]
 ·intro k hk;have k1:(k:Int)<s.length:=by omega
  have k0:(0:Int)≤k:=by omega
  simp only[k1,k0,zDt,zAJ,zAD,zTn]
  rw[zBZ mth0 hk];have hq:=q169 (c0,c1,c2,c3,c4,c5,c6) (s.getD k mth0) a b hp;refine(show(_∧_)∧_=_∨_ from ?_);rw[show(((s.getD k mth0).1,(s.getD k mth0).2.1,(s.getD k mth0).2.2.1,(s.getD k mth0).2.2.2.1,(s.getD k mth0).2.2.2.2.1,(s.getD k mth0).2.2.2.2.2.1,(s.getD k mth0).2.2.2.2.2.2.1,(s.getD k mth0).2.2.2.2.2.2.2):Mth)=s.getD k mth0 from rfl];rw[hq];simp only[zAB,zAG]
  rw[wI (by omega) (by omega)];by_cases e:zAu c0 (s.getD k mth0).2.1=a∧zAu c0 (s.getD k mth0).2.2.1=b
  ·rw[if_pos e];exact .inl ⟨e,rfl⟩
  ·rw[if_neg e];exact .inr ⟨e,rfl⟩
def q86 (f:Int)(h0:0≤f)(h1:f≤255):F86 f=some (decide (has f 8)):=by
 simp only[F86,and8 h0 h1,Bool.not_not]
def q85 (c:Cls)(i:Nat)(hp:bndP c.1)(hf:0≤c.2.1∧c.2.1≤255)(hl:c.2.2.2.2.2.2.length≤1048576)(hm:∀ m∈c.2.2.2.2.2.2,0≤m.1∧m.1≤255)(hi:i<c.2.2.2.2.2.2.length):F85 (c,(i:Int))=some (decide (zLi c i)):=by
 obtain⟨c0,c1,c2,c3,c4,c5,c6⟩:=c;obtain⟨hf0,hf1⟩:=hf;simp only at hp hf0 hf1 hl hm hi;have h0:(0:Int)≤i:=by omega
 have h2:(i:Int)≤c6.length:=by omega
 have hmi:0≤(c6.getD i mth0).1∧(c6.getD i mth0).1≤255:=by
  rw[List.getD_eq_getElem?_getD,zGe hi];exact hm _ (List.getElem_mem hi)
 have hF:zLi (c0,c1,c2,c3,c4,c5,c6) i↔(zBJ c0 (c6.getD i mth0).2.1 Nm∧zBJ c0 (c6.getD i mth0).2.2.1 Dsc∧((0≤(c6.getD i mth0).1∧(c6.getD i mth0).1≤15)∧(txt c0 (c6.getD i mth0).2.1=[98,101,103,105,110]→(c6.getD i mth0).1=1∧txt c0 (c6.getD i mth0).2.2.1=[40,41,86])∧(has (c6.getD i mth0).1 8→(c6.getD i mth0).1=8∧has c1 4)∧(¬has (c6.getD i mth0).1 8→has c1 1→(c6.getD i mth0).1=1)) ∧
   ∀k,k<i→¬(zAu c0 (c6.getD k mth0).2.1=zAu c0 (c6.getD i mth0).2.1∧zAu c0 (c6.getD k mth0).2.2.1=zAu c0 (c6.getD i mth0).2.2.1)):=Iff.rfl
 simp only[F85,h0,zDt,zAD,zTn]
 rw[zBZ mth0 hi];generalize c6.getD i mth0=x at hF hmi ⊢;obtain⟨x0,x1,x2,x3,x4,x5,x6,x7⟩:=x;obtain⟨hm0,hm1⟩:=hmi;simp only at hF hm0 hm1;simp only[zTQ _ _ hp,zWa _ _ hp,q89,zAB,zAU]
 have z111:∀i,F111 ((c0,c1,c2,c3,c4,c5,c6),i)=some (zAu c0 i):=fun i=>q111 (c0,c1,c2,c3,c4,c5,c6) i hp
 have z165:F165 (c0,c1,c2,c3,c4,c5,c6)=some (decide (has c1 1)):=q165 (c0,c1,c2,c3,c4,c5,c6) ⟨hf0,hf1⟩;have z86:=q86 x0 hm0 hm1;by_cases b1:zBJ c0 x1 Nm
 ·rw[decide_eq_true b1,zAJ];by_cases b2:zBJ c0 x2 Dsc
  ·rw[decide_eq_true b2,zAJ];by_cases b3:0≤x0∧x0≤15
   ·rw[decide_eq_true b3,zAJ,zAC];simp only[z111,zAB,eq_self,zDt,zAt,zBs,zAD,zAS,zUw]
    rw[zAy b1.1,zAy b2.1]
    cases d5:decide (has x0 8)<;>cases d8:decide (x0=8)<;>cases d6:decide (has c1 4)<;>cases d7:decide (has c1 1)<;>cases d9:decide (x0=1) <;>
     simp only[z86,z165,zAB,d5,d8,d7,d9,and4 hf0 hf1,d6,zAJ,zAI,Bool.not_true,Bool.not_false,zAC,zAH]
    all_goals simp only[zDe,zDn]at d5 d6 d7 d8 d9
    all_goals first
     |(refine sd ?_
       rw[hF];refine iff_of_false (by simp) fun h=>?_
       obtain⟨_,_,⟨_,_,k1,k2⟩,_⟩:=h
       first
        |exact d8 (k1 d5).1
        |exact d6 (k1 d5).2
        |exact d9 (k2 d5 d7))
     |skip
    all_goals
     have e1:has x0 8→x0=8∧has c1 4:=fun h=>by first|exact⟨d8,d6⟩|exact absurd h d5
     have e2:¬has x0 8→has c1 1→x0=1:=fun h h'=>by first|exact d9|exact absurd h' d7|exact absurd d5 h
     have k2:=d9;clear d5 d6 d7 d8 d9;cases k1:decide (txt c0 x1=[98,101,103,105,110])<;>cases k3:decide (txt c0 x2=[40,41,86])<;>simp only[k1,k3,Bool.not_true,Bool.not_false,zAJ,zAI,zAC,zAH]
     all_goals simp only[zDe,zDn]at k1 k3
     all_goals first
      |(refine sd ?_
        rw[hF];refine iff_of_false (by simp) fun h=>?_
        obtain⟨_,_,⟨_,g1,_,_⟩,_⟩:=h
        first
         |exact k2 (g1 k1).1
         |exact k3 (g1 k1).2)
      |skip
     all_goals
      have e3:txt c0 x1=[98,101,103,105,110]→x0=1∧txt c0 x2=[40,41,86]:=fun h=>by first|exact⟨k2,k3⟩|exact absurd h k1
      clear k1 k2 k3;obtain⟨b,e,hb⟩:=q170168 (c0,c1,c2,c3,c4,c5,c6) (c6.take i) (txt c0 x1) (txt c0 x2) hp (by simp only[zLt];omega);simp only[h0,h2,zDt,zBs,zAD,zTn,List.drop_zero]
      rw[e];simp only[zAB]
      refine sd ?_;rw[hF,zAy b1.1,zAy b2.1]
      have hbi:b=false↔∀k,k<i→¬(zAu c0 (c6.getD k mth0).2.1=txt c0 x1∧zAu c0 (c6.getD k mth0).2.2.1=txt c0 x2):=by
       rw[hb];simp only[zLt,Nat.min_eq_left (Nat.le_of_lt hi)]
       exact⟨fun h k hk=>by have:=h k hk;rwa[zEb hk]at this,fun h k hk=>by rw[zEb hk];exact h k hk⟩
      rw[Bool.not_eq_true',hbi];exact⟨fun h=>⟨b1,b2,⟨b3,e3,e1,e2⟩,h⟩,fun h=>h.2.2.2⟩
   ·rw[decide_eq_false b3,zAI,zAH];exact sd (by rw[hF];exact iff_of_false (by simp) fun h=>b3 h.2.2.1.1)
  ·rw[decide_eq_false b2,zAI,zAH];exact sd (by rw[hF];exact iff_of_false (by simp) fun h=>b2 h.2.1)
 ·rw[decide_eq_false b1,zAI,zAH];exact sd (by rw[hF];exact iff_of_false (by simp) fun h=>b1 h.1)
end Go.Proofs.YtdpapeledldifaaGreat
end
section
namespace Go.Stow
def zSI (op:Int) : -1≤argN op∧argN op≤2:=by unfold argN;repeat' split<;>omega
end Go.Stow
namespace Go.Proofs.YtdpapeledldifaaGreat
open Go Go.AM Go.TM Go.Stow
def q251 (op:Int):F251 op=some (argN op):=by
 simp only[F251,q107,zAB,zAG,zAs,zAC,zAH]
 unfold argN
 repeat' split
 all_goals first|rfl|(exfalso;omega)
def q90 (op:Int):F90 op=some (argN op):=by
 simp only[F90,q89,zAB,zAG,zAJ,zAs,zAC,zAH]
 unfold argN
 repeat' split
 all_goals first|rfl|(exfalso;omega)
def q252 (s:List UInt8)(op:Int)(hs:s.length≤2):F252 (s,op)=some (numB op s):=by
 match s,hs with
 |[],_=>rfl
 | [a],_=>
   have ha:=a.toNat_lt;have e0:∀k:UInt8→Option Int,atO [a] 0 k=k a:=fun k=>rfl
   simp (discharger:=omega) only[F252,zLc,zLn,e0,wI,zAG,zAs,zAC,numB]
   rw[if_neg (by omega),if_neg (by omega)];rw[if_neg (show ¬(32768:Int)≤(a.toNat:Int)by omega)];split<;>rfl
 | [a,b],_=>
   have ha:=a.toNat_lt;have hb:=b.toNat_lt;have e0:∀k:UInt8→Option Int,atO [a,b] 0 k=k a:=fun k=>rfl
   have e1:∀k:UInt8→Option (Int×Int⊕Int),atO [a,b] 1 k=k b:=fun k=>rfl
   simp (discharger:=omega) only[F252,zLc,zLn,e0,e1,wI,zAG,zAs,zAC,numB]
   rw[if_neg (by omega),if_pos (by omega)];by_cases h1:op=1
   ·rw[if_pos h1];by_cases h2:(32768:Int)≤(a.toNat:Int)*256+(b.toNat:Int)
    ·rw[if_pos h2,if_pos ⟨h1,h2⟩]
    ·rw[if_neg h2,if_neg fun h=>h2 h.2]
   ·rw[if_neg h1,if_neg fun h=>h1 h.1]
def zTW {X Y R:Type}{f:X→Option (X⊕(Y⊕R))}{k:Y→Option R}(s:List UInt8)(mk:List InsP→Nat→X)(bad:R)(good:List InsP→R)
  (hend:∀out,out.length≤s.length→bindE (zAE f (mk out s.length)) k=some (good out))
  (hbad:∀out a (h:a<s.length),out.length≤a→(argN s[a].toNat<0∨((s.drop (a+1)).length:Int)<argN s[a].toNat)→bindE (zAE f (mk out a)) k=some bad)
  (hstep:∀out a (h:a<s.length) (n:Nat),out.length≤a→argN s[a].toNat=n→n≤(s.drop (a+1)).length→f (mk out a)=some (.inl (mk (out++[((a:Int),(s[a].toNat:Int),numB s[a].toNat ((s.drop (a+1)).take n))]) (a+1+n)))) :
  ∀(m a:Nat) (out:List InsP),s.length-a≤m→a≤s.length→out.length≤a→bindE (zAE f (mk out a)) k=some (match opsN m (a:Int) (s.drop a)with|some r=>good (out++r)|none=>bad):=by
 intro m
 induction m with
 | zero=>
   intro a out hm ha ho;have:a=s.length:=by omega
   subst this;rw[hend out ho,List.drop_eq_nil_of_le (zLr _)];simp only[opsN,zAn]
 | succ m ih=>
   intro a out hm ha ho;by_cases h:a<s.length
   ·rw[zBf h];simp only[opsN]
    by_cases hb:argN s[a].toNat<0∨((s.drop (a+1)).length:Int)<argN s[a].toNat
    ·rw[if_pos hb,hbad out a h ho hb]
    ·rw[if_neg hb];have hn:argN s[a].toNat=((argN s[a].toNat).toNat:Int):=by omega
     generalize (argN s[a].toNat).toNat=n at hn;have hle:n≤(s.drop (a+1)).length:=by omega
     have hd:(s.drop (a+1)).drop n=s.drop (a+1+n):=by rw[List.drop_drop]
     have hlen:a+1+n≤s.length:=by simp only[zLd]at hle;omega
     rw[zDu (hstep out a h n ho hn hle),ih (a+1+n) _ (by omega) hlen (by simp only[zLa,zLc,zLn];omega),hn,hd];rw[show(((a+1+n:Nat)):Int)=(a:Int)+1+n by omega];cases opsN m ((a:Int)+1+n) (s.drop (a+1+n))with
     |none=>rfl
     |some q=>simp only[Option.map_some,zAa,List.singleton_append]
   ·have:a=s.length:=by omega
    subst this;rw[hend out ho,List.drop_eq_nil_of_le (zLr _)];simp only[opsN,zAn]
def q193 (s:List UInt8)(hs:s.length≤1048576):F193 s=some (opsV s):=by
 simp only[F193,zAG]
 refine(zTW s (fun out a=>(s,out,(a:Int))) ([],false) (fun r=>(r,decide ((0:Int)<r.length))) ?_ ?_ ?_ s.length 0 [] (by omega) (by omega) (by simp)).trans ?_
 ·intro out ho;rw[zBE (y:=.inl out) (by simp only[zIl,if_false]),zAC]
 ·intro out a h ho hb;have h1:(a:Int)<s.length:=by omega
  have h0:(0:Int)≤a:=by omega
  have hr:=s[a].toNat_lt;rw[zBE (y:=.inr ([],false)),zAH];simp (discharger:=omega) only[h1,h0,if_true,zDt,zAD,zTn,zAK,wI,q251,zAB]
  by_cases h2:argN s[a].toNat<0
  ·rw[if_pos h2,zAH]
  ·have h3:=(zSI s[a].toNat).2
   have h4:(s.length:Int)<(a:Int)+1+argN s[a].toNat:=by
    have:=hb.resolve_left h2;simp only[zLd]at this;omega
   rw[if_neg h2,wI (by omega) (by omega),if_pos h4,zAH]
 ·intro out a h n ho hn hle;have h1:(a:Int)<s.length:=by omega
  have h0:(0:Int)≤a:=by omega
  have hr:=s[a].toNat_lt;have hn2:=(zSI s[a].toNat).2;rw[hn]at hn2;have h2:¬((n:Int)<0):=by omega
  have hle':=hle;simp only[zLd]at hle';have h4:¬(s.length:Int)<(a:Int)+1+n:=by omega
  have g1:(0:Int)≤(a:Int)+1:=by omega
  have g2:(a:Int)+1≤(a:Int)+1+n:=by omega
  have g3:(a:Int)+1+n≤s.length:=by omega
  have t1:((a:Int)+1).toNat=a+1:=by omega
  have t2:((a:Int)+1+n).toNat=a+1+n:=by omega
  have hd:(s.take (a+1+n)).drop (a+1)=(s.drop (a+1)).take n:=by rw[List.drop_take];congr 1;omega
  have hl2:((s.drop (a+1)).take n).length≤2:=by simp only[zLt];omega
  have q5:out.length+1≤9223372036854775807:=by omega
  have q6:(out.length+1)*24≤140737488355328:=by omega
  simp (discharger:=omega) only[h1,h0,if_true,zDt,zAD,zTn,zAK,wI,q251,zAB,hn,h2,h4,if_false,zAC,g1,g2,g3,zBs,t1,t2,hd,q252 _ _ hl2,q5,q6]
  rfl
 ·rw[List.drop_zero];unfold opsV;simp only[zNa]
  show some (match opsN s.length (0:Int) s with|some r=>_|none=>_)=_;cases opsN s.length 0 s with
  |none=>rfl
  | some r=>
    cases r with
    |nil=>rfl
    |cons x r=>simp
def raw:List UInt8→Int
 |[]=>0
 |[a]=>a.toNat
 |a::b::_=>256*(a.toNat:Int)+b.toNat
def raw_num (op:Int)(t:List UInt8):(op=1∧32767<raw t→raw t-65536=numB op t)∧(¬(op=1∧32767<raw t)→raw t=numB op t):=by
 match t with
 |[]=>exact⟨fun h=>absurd h.2 (by simp[raw]),fun _=>rfl⟩
 | [a]=>
   have:=a.toNat_lt;exact⟨fun h=>absurd h.2 (by simp only[raw];omega),fun _=>rfl⟩
 | a::b::l=>
   have:=a.toNat_lt;have:=b.toNat_lt;have hr:raw (a::b::l)=256*(a.toNat:Int)+b.toNat:=rfl;have hn:numB op (a::b::l)=if op=1∧32768≤(a.toNat:Int)*256+b.toNat then(a.toNat:Int)*256+b.toNat-65536 else(a.toNat:Int)*256+b.toNat:=rfl
   rw[hr,hn];constructor
   ·intro h;rw[if_pos ⟨h.1,by omega⟩];omega
   ·intro h;rw[if_neg fun h'=>h ⟨h'.1,by omega⟩];omega
def raw_ran (t:List UInt8):0≤raw t∧raw t≤65535:=by
 match t with
 |[]=>simp[raw]
 |[a]=>have:=a.toNat_lt;simp only[raw];omega
 |a::b::l=>have:=a.toNat_lt;have:=b.toNat_lt;simp only[raw];omega
def raw_loop {X Y R:Type}{f:X→Option (X⊕(Y⊕R))}{k:Y→Option R}(t:List UInt8)(mk:Int→Nat→X)(fin:Int→Y)(ht:t.length≤2){x0:X}(hx:x0=mk 0 0)
  (hend:∀acc,f (mk acc t.length)=some (.inr (.inl (fin acc))))
  (hstep:∀acc i (h:i<t.length),0≤acc→acc≤255→f (mk acc i)=some (.inl (mk (256*acc+t[i].toNat) (i+1)))):bindE (zAE f x0) k=k (fin (raw t)):=by
 rw[hx]
 match t,ht with
 | [],_=>
   have h1:f (mk 0 0)=some (.inr (.inl (fin 0))):=hend 0;rw[zBE h1,zAC];rfl
 | [a],_=>
   have:=a.toNat_lt;have h0:f (mk 0 0)=some (.inl (mk (a.toNat:Int) 1)):=by have:=hstep 0 0 (by simp) (by omega) (by omega);simpa using this
   have h1:f (mk (a.toNat:Int) 1)=some (.inr (.inl (fin (a.toNat:Int)))):=hend _;rw[zDu h0,zBE h1,zAC];rfl
 | [a,b],_=>
   have ha:=a.toNat_lt;have hb:=b.toNat_lt;have h0:f (mk 0 0)=some (.inl (mk (a.toNat:Int) 1)):=by have:=hstep 0 0 (by simp) (by omega) (by omega);simpa using this
   have h1:f (mk (a.toNat:Int) 1)=some (.inl (mk (256*(a.toNat:Int)+b.toNat) 2)):=by have:=hstep (a.toNat:Int) 1 (by simp) (by omega) (by omega);simpa using this
   have h2:f (mk (256*(a.toNat:Int)+b.toNat) 2)=some (.inr (.inl (fin (256*(a.toNat:Int)+b.toNat)))):=hend _;rw[zDu h0,zDu h1,zBE h2,zAC];rfl
def q31 (s:List UInt8)(hs:s.length≤120):F31 s=some (opsV s):=by
 simp only[F31,q89,zAB,zAU,zAG]
 by_cases hr:(1:Int)≤s.length∧(s.length:Int)≤120
 ·rw[if_pos hr];refine(zTW s (fun out a=>(s,out,(a:Int))) ([],false) (fun r=>(r,true)) ?_ ?_ ?_ s.length 0 [] (by omega) (by omega) (by simp)).trans ?_
  ·intro out ho;rw[zBE (y:=.inl out) (by simp only[zIl,if_false]),zAC]
  ·intro out a h ho hb;have h1:(a:Int)<s.length:=by omega
   have h0:(0:Int)≤a:=by omega
   have hrr:=s[a].toNat_lt;rw[zBE (y:=.inr ([],false)),zAH];simp (discharger:=omega) only[h1,h0,if_true,zDt,zAD,zTn,zAK,wI,q90,zAB]
   by_cases h2:argN s[a].toNat<0
   ·rw[if_pos h2];rfl
   ·have h4:(s.length:Int)-a≤argN s[a].toNat:=by
     have:=hb.resolve_left h2;simp only[zLd]at this;omega
    rw[if_neg h2,if_pos h4];rfl
  ·intro out a h n ho hn hle;have h1:(a:Int)<s.length:=by omega
   have h0:(0:Int)≤a:=by omega
   have hrr:=s[a].toNat_lt;have hn2:=(zSI s[a].toNat).2;rw[hn]at hn2;have h2:¬((n:Int)<0):=by omega
   have hle':=hle;simp only[zLd]at hle';have h4:¬(s.length:Int)-a≤(n:Int):=by omega
   have g1:(0:Int)≤(a:Int)+1:=by omega
   have g2:(a:Int)+1≤(a:Int)+1+n:=by omega
   have g3:(a:Int)+1+n≤s.length:=by omega
   have t1:((a:Int)+1).toNat=a+1:=by omega
   have t2:((a:Int)+1+n).toNat=a+1+n:=by omega
   have hd:(s.take (a+1+n)).drop (a+1)=(s.drop (a+1)).take n:=by rw[List.drop_take];congr 1;omega
   have hl2:((s.drop (a+1)).take n).length≤2:=by simp only[zLt];omega
   have q5:out.length+1≤9223372036854775807:=by omega
   have q6:(out.length+1)*24≤140737488355328:=by omega
   simp (discharger:=omega) only[h1,h0,if_true,zDt,zAD,zTn,zAK,wI,q90,zAB,hn,h2,h4,if_false,zAC,g1,g2,g3,zBs,t1,t2,hd]
   generalize (s.drop (a+1)).take n=t at hl2;generalize s[a]=x at hrr;have hk:=raw_num x.toNat t;have hrr2:=raw_ran t;refine(congrArg (bindE · _) (raw_loop t (fun acc i=>(s,out,(a:Int),(n:Int),t,(t.length:Int),(i:Int),(a:Int),(x.toNat:Int),acc)) (fun acc=>(s,out,(a:Int),(n:Int),(a:Int),(x.toNat:Int),acc)) hl2 rfl ?_ ?_)).trans ?_
   ·intro acc;simp only[zIl,if_false]
   ·intro acc i hi ha0 ha1;have i1:(i:Int)<t.length:=by omega
    have i0:(0:Int)≤i:=by omega
    have:=t[i].toNat_lt;simp (discharger:=omega) only[i1,i0,if_true,zDt,zAD,zTn,zAK,wI]
    rfl
   ·have e:(if(if(x.toNat:Int)=1 then decide (32767<raw t)else false)=true then raw t-65536 else raw t)=numB x.toNat t:=by
     by_cases hc:(x.toNat:Int)=1∧32767<raw t
     ·rw[←hk.1 hc];simp[hc.1,hc.2]
     ·rw[←hk.2 hc];by_cases h1:(x.toNat:Int)=1
      ·have:¬32767<raw t:=fun h=>hc ⟨h1,h⟩
       simp[h1,this]
      ·simp[h1]
    rw[←e];simp only
    by_cases c1:(x.toNat:Int)=1
    ·simp only[if_pos c1,zAC]
     by_cases c2:32767<raw t
     ·simp (discharger:=omega) only[c2,zDt,zAJ,zAG,zAC,if_true,q5,q6,zBs,zAD,wI]
      rw[show(a:Int)+(1+(n:Int))=((a+1+n:Nat):Int)by omega]
     ·simp (discharger:=omega) only[c2,zDf,zAI,zAG,zAC,if_false,zFt,q5,q6,zDt,zBs,zAD,wI]
      rw[show(a:Int)+(1+(n:Int))=((a+1+n:Nat):Int)by omega]
    ·simp (discharger:=omega) only[if_neg c1,zAC,zAI,zFt,if_false,q5,q6,zDt,zBs,zAD,wI]
     rw[show(a:Int)+(1+(n:Int))=((a+1+n:Nat):Int)by omega]
  ·rw[List.drop_zero];unfold opsV;simp only[zNa]
   show some (match opsN s.length (0:Int) s with|some r=>_|none=>_)=_;cases he:opsN s.length 0 s with
   |none=>rfl
   | some r=>
     cases r with
     | nil=>
       exfalso;cases s with
       |nil=>simp at hr
       | cons x l=>
         simp only[zLc,opsN]at he;split at he
         ·cases he
         ·cases ho:opsN l.length (0+1+argN x.toNat) (l.drop (argN x.toNat).toNat)with
          |none=>rw[ho]at he;cases he
          |some q=>rw[ho]at he;simp at he
     |cons x r=>rfl
 ·rw[if_neg hr];have:s=[]:=List.length_eq_zero_iff.1 (by omega);subst this;rfl
end Go.Proofs.YtdpapeledldifaaGreat
end
section
namespace Go.Stow
def zAj {α:Type}{l:List α}(d:α){P:α→Prop}:(∀x∈l,P x)↔∀i,i<l.length→P (l.getD i d):=by
 constructor
 ·intro h i hi;rw[List.getD_eq_getElem?_getD,zGe hi];exact h _ (List.getElem_mem hi)
 ·intro h x hx;obtain⟨i,hi,rfl⟩:=List.mem_iff_getElem.1 hx;have:=h i hi;rwa[List.getD_eq_getElem?_getD,zGe hi]at this
def zTY:∀(m:Nat) (a:Int) (s:List UInt8) (r:List InsP),opsN m a s=some r→r.length≤m
 |0,a,[],r,h=>by simp only[opsN,zSe]at h;simp[←h]
 |_+1,a,[],r,h=>by simp only[opsN,zSe]at h;simp[←h]
 |0,a,_::_,r,h=>by simp[opsN]at h
 | m+1,a,x::l,r,h=>by
   simp only[opsN]at h;split at h
   ·cases h
   ·cases ho:opsN m (a+1+argN x.toNat) (l.drop (argN x.toNat).toNat)with
    |none=>rw[ho]at h;cases h
    | some q=>
      rw[ho]at h;simp only[Option.map_some,zSe]at h;have:=zTY m _ _ q ho;rw[←h];simp only[zLc]
      omega
def zEu (s:List UInt8):(opsV s).1.length≤s.length:=by
 unfold opsV;cases h:opsN s.length 0 s with
 |none=>simp
 | some r=>
   cases r with
   |nil=>simp
   |cons x r=>exact zTY _ _ _ _ h
def zTc:∀(k:Nat) (l:List UInt8) (ts:List (List UInt8)) (b:List UInt8),more k l=some (ts,b)→ts.length≤k
 |0,[],ts,b,h=>by simp[more]at h
 |_+1,[],ts,b,h=>by simp[more]at h
 | 0,x::l,ts,b,h=>by
   simp only[more]at h;split at h
   ·simp only[zSe,zPi]at h;rw[←h.1];simp
   ·cases h
 | k+1,x::l,ts,b,h=>by
   rw[zHK]at h;split at h
   ·simp only[zSe,zPi]at h;rw[←h.1];simp
   ·cases ho:one (x::l)with
    |none=>rw[ho]at h;cases h
    | some p=>
      rw[ho]at h;simp only[zOb]at h;cases hm:more k p.2 with
      |none=>rw[hm]at h;cases h
      | some q=>
        obtain⟨q1,q2⟩:=q;rw[hm]at h;simp only[Option.map_some,zSe,zPi]at h;have:=zTc k _ _ _ hm;rw[←h.1];simp only[zLc]
        omega
def zXg (s:List UInt8):(dsc s).1.length≤4:=by
 cases s with
 |nil=>simp[dsc]
 | cons x l=>
   simp only[dsc]
   split
   ·cases h:more 4 l with
    |none=>simp
    | some p=>
      obtain⟨ts,b⟩:=p;simp only
      split
      ·exact zTc 4 l ts b h
      ·simp
   ·simp
end Go.Stow
namespace Go.Proofs.YtdpapeledldifaaGreat
open Go Go.AM Go.TM Go.Stow
def q254 (l:List InsP)(a:Int)(hl:l.length≤1048576):F254 (l,a)=some (opI l a):=by
 simp only[F254,zAG]
 refine(zKO (fun i=>(l,a,(i:Int))) () l (fun x=>decide (x.1=a)) (fun i=>(i:Int)) rfl ?_ ?_).trans ?_
 ·simp only[zIl,if_false]
 ·intro i hi;have i1:(i:Int)<l.length:=by omega
  have i0:(0:Int)≤i:=by omega
  simp (discharger:=omega) only[i1,i0,if_true,zDt,zAD,zTn,zAK,wI,zDe]
  split<;>rfl
 ·unfold opI;cases l.findIdx? (fun x=>decide (x.1=a))<;>rfl
def q291 (op:Int):F291 op=some (want op):=by
 simp only[F291,zAG,zAJ,zAs,zAC,zAH]
 unfold want
 repeat' split
 all_goals first|rfl|(exfalso;omega)
def q246 (c:Cls)(m:Mth)(l:List InsP)(x:InsP)(hp:bndP c.1)(hl:l.length≤1048576):F246 (c,m,l,x)=some (decide (zHh c.1 m.2.2.2.2.1 l x)):=by
 obtain⟨c0,c1,c2,c3,c4,c5,c6⟩:=c;obtain⟨m0,m1,m2,m3,m4,m5,m6,m7⟩:=m;obtain⟨x0,x1,x2⟩:=x;simp only at hp;have hI:zHh c0 m4 l (x0,x1,x2)↔((3≤x1∧x1≤6→x2<m4)∧(14≤x1∧x1≤18→0≤opI l x2)∧(want x1≠0→(zAY c0 x2).1=want x1)):=Iff.rfl;simp only[F246,q107,q254 _ _ hl,q291,q133 _ _ _ hp,zAB,zAG]
 by_cases h1:3≤x1∧x1≤6
 ·rw[if_pos h1];have h2:¬(14≤x1∧x1≤18):=by omega
  have h3:want x1=0:=by unfold want;repeat' split<;>omega
  exact sd (by rw[hI,decide_eq_true_iff];simp[h1,h2,h3])
 ·rw[if_neg h1];by_cases h2:14≤x1∧x1≤18
  ·rw[if_pos h2];have h3:want x1=0:=by unfold want;repeat' split<;>omega
   exact sd (by rw[hI,decide_eq_true_iff];simp[h1,h2,h3])
  ·rw[if_neg h2];by_cases h3:want x1=0
   ·rw[if_pos h3];exact sd (by rw[hI];simp[h1,h2,h3])
   ·rw[if_neg h3];exact sd (by rw[hI,decide_eq_true_iff];simp[h1,h2,h3])
def q247 (c:Cls)(m:Mth)(l:List InsP)(t:Trp)(hp:bndP c.1)(hl:l.length≤1048576):F247 (c,m,l,t)=some (decide (zDJ c.1 m.2.2.2.2.2.1.length l t)):=by
 obtain⟨c0,c1,c2,c3,c4,c5,c6⟩:=c;obtain⟨m0,m1,m2,m3,m4,m5,m6,m7⟩:=m;obtain⟨t0,t1,t2,t3⟩:=t;simp only at hp;have hI:zDJ c0 m5.length l (t0,t1,t2,t3)↔(t0<t1∧0≤opI l t0∧(t1=(m5.length:Int)∨0≤opI l t1)∧0≤opI l t2∧(t3=0∨zBq c0 t3)):=Iff.rfl;simp only[F247,q254 _ _ hl,zAB,zAU,zAG]
 by_cases h1:t1≤t0
 ·rw[if_pos h1,zAH];exact sd (by rw[hI];exact iff_of_false (by simp) fun h=>by omega)
 rw[if_neg h1];by_cases h2:opI l t0<0
 ·rw[if_pos h2,zAH];exact sd (by rw[hI];exact iff_of_false (by simp) fun h=>by omega)
 rw[if_neg h2]
 have hfin:(t1=(m5.length:Int)∨0≤opI l t1)→(bindE (if opI l t2<0 then some (Sum.inr false)else some (Sum.inl ((c0,c1,c2,c3,c4,c5,c6),t0,t1,t2,t3)):Option ((Cls×Int×Int×Int×Int)⊕Bool)) fun(x:Cls×Int×Int×Int×Int)=>
   if x.2.2.2.2=0 then some true else zAA (F130 (x.1.1,x.2.2.2.2)) fun y=>some (!decide (y=[])))=some (decide (zDJ c0 m5.length l (t0,t1,t2,t3))):=by
  intro h3;by_cases h4:opI l t2<0
  ·rw[if_pos h4,zAH];exact sd (by rw[hI];exact iff_of_false (by simp) fun h=>by omega)
  rw[if_neg h4,zAC];simp only[q130 _ _ hp,zAB]
  by_cases h5:t3=0
  ·rw[if_pos h5];exact sd (by rw[hI];exact iff_of_true rfl ⟨by omega,by omega,h3,by omega,.inl h5⟩)
  ·rw[if_neg h5];refine sd ?_;rw[hI];simp only[Bool.not_eq_true',zDn]
   rw[show(¬clsN c0 t3=[])↔zBq c0 t3 from zDp];exact⟨fun h=>⟨by omega,by omega,h3,by omega,.inr h⟩,fun h=>h.2.2.2.2.resolve_left h5⟩
 by_cases h3:t1=(m5.length:Int)
 ·rw[if_pos h3];exact hfin (.inl h3)
 ·rw[if_neg h3];by_cases h4:opI l t1<0
  ·rw[if_pos h4,zAH];exact sd (by rw[hI];exact iff_of_false (by simp) fun h=>by omega)
  ·rw[if_neg h4];exact hfin (.inr (by omega))
def q292 (c:Cls)(l:List Knd)(hp:bndP c.1)(hl:l.length≤1048576):F292 (c,l)=some (decide (zBW c.1 l)):=by
 obtain⟨c0,c1,c2,c3,c4,c5,c6⟩:=c;simp only at hp;simp only[F292,zAG]
 refine zGj (fun i=>(l,(i:Int),c0,c1,c2,c3,c4,c5,c6)) () false l.length (fun i=>zKf c0 (l.getD i (0,0))) rfl ?_ ?_ ?_ ?_
 ·simp only[zIl,if_false]
 ·intro i hi;have i1:(i:Int)<l.length:=by omega
  have i0:(0:Int)≤i:=by omega
  simp only[i1,i0,if_true,zDt,zAD,zTn]
  simp only[zBZ ((0,0):Knd) hi]
  generalize l.getD i (0,0)=x;have hK:zKf c0 x↔((0≤x.1∧x.1≤3)∧(x.1=3→zBq c0 x.2)∧(x.1≠3→x.2=0)):=Iff.rfl;simp only[q107,q130 _ _ hp,zAB,zAU,zAG]
  by_cases h1:0≤x.1∧x.1≤3
  ·rw[if_pos h1];by_cases h2:x.1=3
   ·rw[if_pos h2,if_pos h2];by_cases h3:clsN c0 x.2=[]
    ·rw[if_pos h3];exact .inr ⟨fun h=>zDp.2 ((hK.1 h).2.1 h2) h3,rfl⟩
    ·rw[if_neg h3];refine .inl ⟨hK.2 ⟨h1,fun _=>zDp.1 h3,fun h=>absurd h2 h⟩,?_⟩;simp only[zAC]
     rw[wI (by omega) (by omega)];rfl
   ·rw[if_neg h2,if_neg h2];by_cases h3:x.2=0
    ·rw[if_pos h3];refine .inl ⟨hK.2 ⟨h1,fun h=>absurd h h2,fun _=>h3⟩,?_⟩;simp only[zAC]
     rw[wI (by omega) (by omega)];rfl
    ·rw[if_neg h3];exact .inr ⟨fun h=>h3 ((hK.1 h).2.2 h2),rfl⟩
  ·rw[if_neg h1];exact .inr ⟨fun h=>h1 (hK.1 h).1,rfl⟩
 ·intro h;exact sd (iff_of_true rfl ((zAj (0,0)).2 h))
 ·intro h;exact sd (iff_of_false (by simp) fun h'=>h ((zAj (0,0)).1 h'))
def q245 (c:Cls)(m:Mth)(hp:bndP c.1)(hm:0≤m.1∧m.1≤255):F245 (c,m)=some (takes c.1 m):=by
 obtain⟨c0,c1,c2,c3,c4,c5,c6⟩:=c;obtain⟨m0,m1,m2,m3,m4,m5,m6,m7⟩:=m;obtain⟨hm0,hm1⟩:=hm;simp only at hp hm0 hm1;have hd:=zXg (txt c0 m2);simp only[F245,q131 _ _ hp,n214 _ (zDX hp _),q108 hm0 hm1 (show(1:Int)≤1 by omega),zAB,zAG,takes]
 split
 ·rfl
 ·rw[wI (by omega) (by omega)]
def q248 (c:Cls)(m:Mth)(l:List InsP)(hp:bndP c.1)(hl:l.length≤1048576)(hm:m.2.2.2.2.2.2.2.length≤1048576)(hk:∀ f∈m.2.2.2.2.2.2.2,bFrm f):F248 (c,m,l)=some (decide (zKg c.1 m l)):=by
 obtain⟨c0,c1,c2,c3,c4,c5,c6⟩:=c;obtain⟨m0,m1,m2,m3,m4,m5,m6,m7⟩:=m;simp only at hp hm hk;simp only[F248,zAG]
 refine zGj (fun i=>(l,(i:Int),(c0,c1,c2,c3,c4,c5,c6),m0,m1,m2,m3,m4,m5,m6,m7)) () false m7.length (zUy c0 (m0,m1,m2,m3,m4,m5,m6,m7) l) rfl ?_ ?_ ?_ ?_
 ·simp only[zIl,if_false]
 ·intro i hi;have i1:(i:Int)<m7.length:=by omega
  have i0:(0:Int)≤i:=by omega
  have hF:zUy c0 (m0,m1,m2,m3,m4,m5,m6,m7) l i↔(0≤opI l (m7.getD i (0,[],[])).1∧(0<i→(m7.getD (i-1) (0,[],[])).1<(m7.getD i (0,[],[])).1)∧((m7.getD i (0,[],[])).2.1.length:Int)=m4∧((m7.getD i (0,[],[])).2.2.length:Int)≤m3∧zBW c0 (m7.getD i (0,[],[])).2.1∧zBW c0 (m7.getD i (0,[],[])).2.2):=Iff.rfl;have hb:bFrm (m7.getD i (0,[],[])):=(zAj (P:=bFrm) (0,[],[])).1 hk i hi;simp only[i1,i0,if_true,zDt,zAD,zTn]
  rw[zBZ (0,[],[]) hi];rw[hF];generalize m7.getD i (0,[],[])=x at hb;have z1:F292 ((c0,c1,c2,c3,c4,c5,c6),x.2.1)=some (decide (zBW c0 x.2.1)):=q292 (c0,c1,c2,c3,c4,c5,c6) x.2.1 hp hb.1;have z2:F292 ((c0,c1,c2,c3,c4,c5,c6),x.2.2)=some (decide (zBW c0 x.2.2)):=q292 (c0,c1,c2,c3,c4,c5,c6) x.2.2 hp hb.2;simp only[q254 _ _ hl,z1,z2,zAB,zAU,zAG]
  by_cases h1:opI l x.1<0
  ·rw[if_pos h1];exact .inr ⟨fun h=>by omega,rfl⟩
  rw[if_neg h1]
  have hrest:(0<i→(m7.getD (i-1) (0,[],[])).1<x.1)→∀F:Option ((List InsP×Int×Cls×Mth)⊕((List InsP×Int×Cls×Mth)⊕(Unit⊕Bool)))→Option ((List InsP×Int×Cls×Mth)⊕(Unit⊕Bool)),F (some (.inr (.inr (.inr false))))=some (.inr (.inr false)) →
    F (some (.inl (l,(i:Int),(c0,c1,c2,c3,c4,c5,c6),m0,m1,m2,m3,m4,m5,m6,m7)))=some (.inl (l,((i+1:Nat):Int),(c0,c1,c2,c3,c4,c5,c6),m0,m1,m2,m3,m4,m5,m6,m7)) →
    ((0≤opI l x.1∧(0<i→(m7.getD (i-1) (0,[],[])).1<x.1)∧(x.2.1.length:Int)=m4∧(x.2.2.length:Int)≤m3∧zBW c0 x.2.1∧zBW c0 x.2.2) ∧
      F (if(x.2.1.length:Int)=m4 then if m3<(x.2.2.length:Int)then some (.inr (.inr (.inr false)))else if zBW c0 x.2.1 then if zBW c0 x.2.2 then some (.inl (l,(i:Int),(c0,c1,c2,c3,c4,c5,c6),m0,m1,m2,m3,m4,m5,m6,m7))else some (.inr (.inr (.inr false)))else some (.inr (.inr (.inr false)))else some (.inr (.inr (.inr false))))=some (.inl (l,((i+1:Nat):Int),(c0,c1,c2,c3,c4,c5,c6),m0,m1,m2,m3,m4,m5,m6,m7))) ∨
    (¬(0≤opI l x.1∧(0<i→(m7.getD (i-1) (0,[],[])).1<x.1)∧(x.2.1.length:Int)=m4∧(x.2.2.length:Int)≤m3∧zBW c0 x.2.1∧zBW c0 x.2.2) ∧
     F (if(x.2.1.length:Int)=m4 then if m3<(x.2.2.length:Int)then some (.inr (.inr (.inr false)))else if zBW c0 x.2.1 then if zBW c0 x.2.2 then some (.inl (l,(i:Int),(c0,c1,c2,c3,c4,c5,c6),m0,m1,m2,m3,m4,m5,m6,m7))else some (.inr (.inr (.inr false)))else some (.inr (.inr (.inr false)))else some (.inr (.inr (.inr false))))=some (.inr (.inr false))):=by
   intro h2 F f1 f2;by_cases h3:(x.2.1.length:Int)=m4
   ·rw[if_pos h3];by_cases h4:m3<(x.2.2.length:Int)
    ·rw[if_pos h4];exact .inr ⟨fun h=>by omega,f1⟩
    ·rw[if_neg h4];by_cases h5:zBW c0 x.2.1
     ·rw[if_pos h5];by_cases h6:zBW c0 x.2.2
      ·rw[if_pos h6];exact .inl ⟨⟨by omega,h2,h3,by omega,h5,h6⟩,f2⟩
      ·rw[if_neg h6];exact .inr ⟨fun h=>h6 h.2.2.2.2.2,f1⟩
     ·rw[if_neg h5];exact .inr ⟨fun h=>h5 h.2.2.2.2.1,f1⟩
   ·rw[if_neg h3];exact .inr ⟨fun h=>h3 h.2.2.1,f1⟩
  by_cases h2:(0:Int)<i
  ·have j1:((i:Int)-1).toNat=i-1:=by omega
   have j0:(0:Int)≤(i:Int)-1:=by omega
   have jl:i-1<m7.length:=by omega
   rw[if_pos h2];simp (discharger:=omega) only[wI,j0,zDt,zAD,j1]
   rw[zBZ (0,[],[]) jl];by_cases h3:x.1≤(m7.getD (i-1) (0,[],[])).1
   ·rw[if_pos h3];exact .inr ⟨fun h=>by have:=h.2.1 (by omega);omega,rfl⟩
   ·rw[if_neg h3];refine hrest (fun _=>by omega) (bindE · _) rfl ?_;simp only[zAC]
    rw[wI (by omega) (by omega)];rfl
  ·rw[if_neg h2];refine hrest (fun h=>absurd h (by omega)) (bindE · _) rfl ?_;simp only[zAC]
   rw[wI (by omega) (by omega)];rfl
 ·intro h;exact sd (iff_of_true rfl h)
 ·intro h;exact sd (iff_of_false (by simp) h)
end Go.Proofs.YtdpapeledldifaaGreat
end
namespace Go.Proofs.YtdpapeledldifaaGreat
section
open Go Go.AM Go.TM Go.Stow
def q178 (c:Cls)(m:Mth)(hp:bndP c.1)(hm:0≤m.1∧m.1≤255)(hb:bMth m):F178 (c,m)=some (decide (¬has m.1 8→zBb c.1 m)):=by
 have z245:=q245 c m hp hm;obtain⟨c0,c1,c2,c3,c4,c5,c6⟩:=c;obtain⟨m0,m1,m2,m3,m4,m5,m6,m7⟩:=m;obtain⟨hm0,hm1⟩:=hm;obtain⟨b1,b2,b3,b4⟩:=hb;simp only at hp hm0 hm1 b1 b2 b3 b4 z245;have hlen:=zEu m5;have hB:zBb c0 (m0,m1,m2,m3,m4,m5,m6,m7)↔((opsV m5).2=true∧m3≤8∧(takes c0 (m0,m1,m2,m3,m4,m5,m6,m7)≤m4∧m4≤8)∧(∀x∈(opsV m5).1,zHh c0 m4 (opsV m5).1 x)∧(∀t∈m6,zDJ c0 m5.length (opsV m5).1 t)∧zKg c0 (m0,m1,m2,m3,m4,m5,m6,m7) (opsV m5).1):=Iff.rfl;simp only[F178,q108 hm0 hm1 (show(1:Int)≤8 by omega),q193 _ b1,zAB,zAG,zAU]
 by_cases h0:has m0 8
 ·rw[if_pos h0];exact sd (iff_of_true rfl fun h=>absurd h0 h)
 rw[if_neg h0];have hgo:∀b:Bool,(b=true↔zBb c0 (m0,m1,m2,m3,m4,m5,m6,m7))→some b=some (decide (¬has m0 8→zBb c0 (m0,m1,m2,m3,m4,m5,m6,m7))):=fun b hb=>sd (hb.trans ⟨fun h _=>h,fun h=>h h0⟩)
 generalize hv:opsV m5=v at hlen hB;obtain⟨ops,ok⟩:=v;simp only at hlen hB ⊢;have hol:ops.length≤1048576:=by omega
 cases ok with
 | false=>
   rw[zAI,zAH];exact hgo false (by rw[hB];exact iff_of_false (by simp) fun h=>by cases h.1)
 | true=>
   rw[zAJ];by_cases h1:8<m3
   ·rw[if_pos h1,zAH];exact hgo false (by rw[hB];exact iff_of_false (by simp) fun h=>by omega)
   rw[if_neg h1,z245,zAB];simp only[eq_self,zDt,zAD,zAS,q107,zAB,zAG]
   by_cases h2:takes c0 (m0,m1,m2,m3,m4,m5,m6,m7)≤m4∧m4≤8
   ·rw[if_pos h2,zAC];simp only
    refine zGj (fun i=>(ops,(i:Int),(c0,c1,c2,c3,c4,c5,c6),m0,m1,m2,m3,m4,m5,m6,m7)) (ops,(c0,c1,c2,c3,c4,c5,c6),m0,m1,m2,m3,m4,m5,m6,m7) false ops.length (fun i=>zHh c0 m4 ops (ops.getD i (0,0,0))) rfl ?_ ?_ ?_ ?_
    ·simp only[zIl,if_false]
    ·intro i hi;have i1:(i:Int)<ops.length:=by omega
     have i0:(0:Int)≤i:=by omega
     simp only[i1,i0,if_true,zDt,zBs,zAD,zTn]
     rw[zBZ (0,0,0) hi];generalize ops.getD i (0,0,0)=x;have z:=q246 (c0,c1,c2,c3,c4,c5,c6) (m0,m1,m2,m3,m4,m5,m6,m7) ops x hp hol;rw[show((x.1,x.2.1,x.2.2):InsP)=x from rfl,z];simp only[zAB,zAG]
     by_cases h:zHh c0 m4 ops x
     ·rw[if_pos h,wI (by omega) (by omega)];exact .inl ⟨h,rfl⟩
     ·rw[if_neg h];exact .inr ⟨h,rfl⟩
    ·intro hins;have hins:=(zAj (P:=fun x=>zHh c0 m4 ops x) (0,0,0)).2 hins;simp only
     refine zGj (fun i=>(ops,(i:Int),(c0,c1,c2,c3,c4,c5,c6),m0,m1,m2,m3,m4,m5,m6,m7)) (ops,(c0,c1,c2,c3,c4,c5,c6),m0,m1,m2,m3,m4,m5,m6,m7) false m6.length (fun i=>zDJ c0 m5.length ops (m6.getD i (0,0,0,0))) rfl ?_ ?_ ?_ ?_
     ·simp only[zIl,if_false]
     ·intro i hi;have i1:(i:Int)<m6.length:=by omega
      have i0:(0:Int)≤i:=by omega
      simp only[i1,i0,if_true,zDt,zBs,zAD,zTn]
      rw[zBZ (0,0,0,0) hi];generalize m6.getD i (0,0,0,0)=x;have z:=q247 (c0,c1,c2,c3,c4,c5,c6) (m0,m1,m2,m3,m4,m5,m6,m7) ops x hp hol;rw[show((x.1,x.2.1,x.2.2.1,x.2.2.2):Trp)=x from rfl,z];simp only[zAB,zAG]
      by_cases h:zDJ c0 m5.length ops x
      ·rw[if_pos h,wI (by omega) (by omega)];exact .inl ⟨h,rfl⟩
      ·rw[if_neg h];exact .inr ⟨h,rfl⟩
     ·intro htr;have htr:=(zAj (P:=fun x=>zDJ c0 m5.length ops x) (0,0,0,0)).2 htr;have z:=q248 (c0,c1,c2,c3,c4,c5,c6) (m0,m1,m2,m3,m4,m5,m6,m7) ops hp hol b3 b4;simp only
      rw[z,zAB];refine hgo _ ?_;rw[hB,decide_eq_true_iff];exact⟨fun h=>⟨rfl,by omega,h2,hins,htr,h⟩,fun h=>h.2.2.2.2.2⟩
     ·intro htr;exact hgo false (by rw[hB];exact iff_of_false (by simp) fun h=>htr ((zAj (P:=fun x=>zDJ c0 m5.length ops x) (0,0,0,0)).1 h.2.2.2.2.1))
    ·intro hins;exact hgo false (by rw[hB];exact iff_of_false (by simp) fun h=>hins ((zAj (P:=fun x=>zHh c0 m4 ops x) (0,0,0)).1 h.2.2.2.1))
   ·rw[if_neg h2,zAH];exact hgo false (by rw[hB];exact iff_of_false (by simp) fun h=>h2 h.2.2.1)
def q173 (l:List InsP)(a:Int)(hl:l.length≤1048576):F173 (l,a)=some (opI l a):=by
 have e:F242240 (l,a)=some (opI l a,a):=by
  simp only[F242240,zAG]
  refine(zKO (fun i=>(l,(l.length:Int),(i:Int),a)) a l (fun x=>decide (x.1=a)) (fun i=>((i:Int),a)) rfl ?_ ?_).trans ?_
  ·simp only[zIl,if_false]
  ·intro i hi;have i1:(i:Int)<l.length:=by omega
   have i0:(0:Int)≤i:=by omega
   simp (discharger:=omega) only[i1,i0,if_true,zDt,zAD,zTn,zAK,wI,zDe,F241,zAB,zAG]
   split<;>rfl
  ·unfold opI;cases l.findIdx? (fun x=>decide (x.1=a))<;>rfl
 simp only[F173,e,zAB]
def q171 (op:Int):F171 op=some (want op):=by
 simp only[F171,q89,zAB,zAG,zAJ,zAs,zAC,zAH]
 unfold want
 repeat' split
 all_goals first|rfl|(exfalso;omega)
def q174 (c:Cls)(l:List Knd)(hp:bndP c.1)(hok:zKe c.1)(hl:l.length≤1048576)(hk:∀ k∈l,0≤k.1∧k.1≤3):F174 (c,l)=some (decide (zBW c.1 l)):=by
 obtain⟨c0,c1,c2,c3,c4,c5,c6⟩:=c;simp only at hp hok;simp only[F174,F244242,F244290]
 have hk':=(zAj (P:=fun k:Knd=>0≤k.1∧k.1≤3) (0,0)).1 hk
 have key:=any_r (f:=(fun(x:List Knd×Int×Int×Cls)=>cndO (decide (x.2.2.1<x.2.1))
    (grdO (decide (0≤x.2.2.1)) (atO x.1 (Int.toNat x.2.2.1) fun y=>zAA (F243 ((y.1,y.2),x.2.2.2.1,x.2.2.2.2.1,x.2.2.2.2.2.1,x.2.2.2.2.2.2.1,x.2.2.2.2.2.2.2.1,x.2.2.2.2.2.2.2.2.1,x.2.2.2.2.2.2.2.2.2)) fun z=>
    cndO z.1 (some (.inr (.inr (x.2.2.1,z.2)))) (some (.inl (x.1,x.2.1,IntKind.wrap .i64 (x.2.2.1+1),z.2)))))
    (some (.inr (.inl (x.2.2.2.1,x.2.2.2.2.1,x.2.2.2.2.2.1,x.2.2.2.2.2.2.1,x.2.2.2.2.2.2.2.1,x.2.2.2.2.2.2.2.2.1,x.2.2.2.2.2.2.2.2.2))))))
  (fun k=>(l,(l.length:Int),(k:Int),c0,c1,c2,c3,c4,c5,c6)) (c0,c1,c2,c3,c4,c5,c6) (fun k=>((k:Int),c0,c1,c2,c3,c4,c5,c6)) l.length (fun k=>¬zKf c0 (l.getD k (0,0))) (x0:=(l,(l.length:Int),0,c0,c1,c2,c3,c4,c5,c6)) (k:=fun x=>some ((-1:Int),x)) rfl ?_ ?_
 ·rcases key with⟨h1,h2⟩|⟨k,h1,h2,h3⟩
  ·rw[zEJ h2];exact sd (iff_of_true rfl ((zAj (0,0)).2 fun i hi=>Classical.not_not.1 (h1 i hi)))
  ·rw[zEJ h3];refine sd (iff_of_false ?_ fun h=>h2 ((zAj (0,0)).1 h k h1));simp
 ·simp only[zIl,zDf,zAI]
 ·intro k hkl;have k1:(k:Int)<l.length:=by omega
  have k0:(0:Int)≤k:=by omega
  simp only[k1,k0,zDt,zAJ,zAD,zTn]
  rw[zBZ (0,0) hkl];have hr:=hk' k hkl;generalize l.getD k (0,0)=x at hr;have hK:zKf c0 x↔((0≤x.1∧x.1≤3)∧(x.1=3→zBq c0 x.2)∧(x.1≠3→x.2=0)):=Iff.rfl;have z162:F162 ((c0,c1,c2,c3,c4,c5,c6),x.2)=some (decide ((zAY c0 x.2).1=2)):=q162 (c0,c1,c2,c3,c4,c5,c6) x.2 hp
  have z:F243 ((x.1,x.2),c0,c1,c2,c3,c4,c5,c6)=some (decide (¬zKf c0 x),c0,c1,c2,c3,c4,c5,c6):=by
   simp only[F243,z162,zAB,zAU,zAG]
   by_cases h1:x.1=3
   ·rw[if_pos h1];by_cases h2:(zAY c0 x.2).1=2
    ·rw[if_pos h2,if_pos h1,decide_eq_false fun h=>h (hK.2 ⟨hr,fun _=>hok.cls.2 h2,fun h=>absurd h1 h⟩)]
    ·rw[if_neg h2,decide_eq_true (p:=¬zKf c0 x) fun h=>h2 ((hK.1 h).2.1 h1).1]
   ·rw[if_neg h1,if_neg h1];by_cases h2:x.2=0
    ·rw[decide_eq_true h2,decide_eq_false fun h=>h (hK.2 ⟨hr,fun h=>absurd h h1,fun _=>h2⟩)];rfl
    ·rw[decide_eq_false h2,decide_eq_true (p:=¬zKf c0 x) fun h=>h2 ((hK.1 h).2.2 h1)];rfl
  refine(show ¬zKf c0 x∧_=_∨_ from ?_);rw[z];simp only[zAB,zAG]
  rw[wI (by omega) (by omega)];by_cases e:¬zKf c0 x
  ·rw[if_pos e];exact .inl ⟨e,rfl⟩
  ·rw[if_neg e];exact .inr ⟨e,rfl⟩
def q87 (c:Cls)(m:Mth)(hp:bndP c.1)(hok:zKe c.1)(hm:0≤m.1∧m.1≤255)(hb:bMth m)(h120:m.2.2.2.2.2.1.length≤120)(hfr:∀ f∈m.2.2.2.2.2.2.2,fFrm f)(hd:zBJ c.1 m.2.2.1 Dsc):F87 (c,m)=some (decide (zBb c.1 m)):=by
 obtain⟨c0,c1,c2,c3,c4,c5,c6⟩:=c;obtain⟨m0,m1,m2,m3,m4,m5,m6,m7⟩:=m;obtain⟨hm0,hm1⟩:=hm;obtain⟨b1,b2,b3,b4⟩:=hb;simp only at hp hok hm0 hm1 b1 b2 b3 b4 h120 hfr hd;have hlen:=zEu m5;have hB:zBb c0 (m0,m1,m2,m3,m4,m5,m6,m7)↔((opsV m5).2=true∧m3≤8∧(takes c0 (m0,m1,m2,m3,m4,m5,m6,m7)≤m4∧m4≤8)∧(∀x∈(opsV m5).1,zHh c0 m4 (opsV m5).1 x)∧(∀t∈m6,zDJ c0 m5.length (opsV m5).1 t)∧zKg c0 (m0,m1,m2,m3,m4,m5,m6,m7) (opsV m5).1):=Iff.rfl;have z111:∀i,F111 ((c0,c1,c2,c3,c4,c5,c6),i)=some (zAu c0 i):=fun i=>q111 (c0,c1,c2,c3,c4,c5,c6) i hp
 have z162:∀i,F162 ((c0,c1,c2,c3,c4,c5,c6),i)=some (decide ((zAY c0 i).1=2)):=fun i=>q162 (c0,c1,c2,c3,c4,c5,c6) i hp
 have z124:∀k,F124 (c0,k)=some (zAY c0 k):=fun k=>q124 c0 k hp.1
 have hdl:=zXg (txt c0 m2);have hT:takes c0 (m0,m1,m2,m3,m4,m5,m6,m7)=if has m0 1 then((dsc (txt c0 m2)).1.length:Int)else(dsc (txt c0 m2)).1.length+1:=rfl
 simp only[F87,q31 _ h120,z111,zAy hd.1,n170 _ (zDX hp _),zAB,zAG,zAU,and1p hm0 hm1]
 rw[show(if ¬has m0 1 then some (Sum.inl ((opsV m5).1,(opsV m5).2,IntKind.wrap .i64 (((dsc (txt c0 m2)).1.length:Int)+1),(c0,c1,c2,c3,c4,c5,c6),m0,m1,m2,m3,m4,m5,m6,m7))else some (Sum.inl ((opsV m5).1,(opsV m5).2,((dsc (txt c0 m2)).1.length:Int),(c0,c1,c2,c3,c4,c5,c6),m0,m1,m2,m3,m4,m5,m6,m7)):Option ((List InsP×Bool×Int×Cls×Mth)⊕Bool))=some (Sum.inl ((opsV m5).1,(opsV m5).2,takes c0 (m0,m1,m2,m3,m4,m5,m6,m7),(c0,c1,c2,c3,c4,c5,c6),m0,m1,m2,m3,m4,m5,m6,m7))by
  rw[hT];by_cases h:has m0 1
  ·rw[if_neg (by simp[h]),if_pos h]
  ·rw[if_pos h,if_neg h,wI (by omega) (by omega)],zAC]
 generalize takes c0 (m0,m1,m2,m3,m4,m5,m6,m7)=need at hB;generalize hv:opsV m5=v at hlen hB;obtain⟨ops,ok⟩:=v;simp only at hlen hB ⊢;have hol:ops.length≤1048576:=by omega
 cases ok with
 | false=>
   rw[zAI,zAH];exact sd (by rw[hB];exact iff_of_false (by simp) fun h=>by cases h.1)
 | true=>
   rw[zAJ];by_cases h1:8<m3
   ·rw[if_pos h1,zAH];exact sd (by rw[hB];exact iff_of_false (by simp) fun h=>by omega)
   rw[if_neg h1];simp only[q89,zAB,zAG]
   by_cases h2:need≤m4∧m4≤8
   ·rw[if_pos h2,zAC];simp only
    refine zGj (fun i=>((ops.length:Int),(i:Int),(c0,c1,c2,c3,c4,c5,c6),(m0,m1,m2,m3,m4,m5,m6,m7),ops)) (ops,(c0,c1,c2,c3,c4,c5,c6),m0,m1,m2,m3,m4,m5,m6,m7) false ops.length (fun i=>zHh c0 m4 ops (ops.getD i (0,0,0))) rfl ?_ ?_ ?_ ?_
    ·simp only[zIl,if_false]
    ·intro i hi;have i1:(i:Int)<ops.length:=by omega
     have i0:(0:Int)≤i:=by omega
     simp only[i1,i0,if_true,zDt,zBs,zAD,zTn]
     rw[zBZ (0,0,0) hi];generalize ops.getD i (0,0,0)=x;obtain⟨x0,x1,x2⟩:=x;have hI:zHh c0 m4 ops (x0,x1,x2)↔((3≤x1∧x1≤6→x2<m4)∧(14≤x1∧x1≤18→0≤opI ops x2)∧(want x1≠0→(zAY c0 x2).1=want x1)):=Iff.rfl;rw[hI];simp only[q171,F172,q89,q173 _ _ hol,z124,zAB,zAG,zAU]
     have hfin:∀F:Option ((Int×Int×Cls×Mth×List InsP)⊕((Int×Int×Cls×Mth×List InsP)⊕((List InsP×Cls×Mth)⊕Bool)))→Option ((Int×Int×Cls×Mth×List InsP)⊕((List InsP×Cls×Mth)⊕Bool)),
       F (some (.inr (.inr (.inr false))))=some (.inr (.inr false))→F (some (.inl ((ops.length:Int),(i:Int),(c0,c1,c2,c3,c4,c5,c6),(m0,m1,m2,m3,m4,m5,m6,m7),ops)))=some (.inl ((ops.length:Int),((i+1:Nat):Int),(c0,c1,c2,c3,c4,c5,c6),(m0,m1,m2,m3,m4,m5,m6,m7),ops)) →
       (3≤x1∧x1≤6→x2<m4)→(14≤x1∧x1≤18→0≤opI ops x2) →
       (((3≤x1∧x1≤6→x2<m4)∧(14≤x1∧x1≤18→0≤opI ops x2)∧(want x1≠0→(zAY c0 x2).1=want x1))∧F (if want x1=0 then some (.inl ((ops.length:Int),(i:Int),(c0,c1,c2,c3,c4,c5,c6),(m0,m1,m2,m3,m4,m5,m6,m7),ops))else if(zAY c0 x2).1=want x1 then some (.inl ((ops.length:Int),(i:Int),(c0,c1,c2,c3,c4,c5,c6),(m0,m1,m2,m3,m4,m5,m6,m7),ops))else some (.inr (.inr (.inr false))))=some (.inl ((ops.length:Int),((i+1:Nat):Int),(c0,c1,c2,c3,c4,c5,c6),(m0,m1,m2,m3,m4,m5,m6,m7),ops))) ∨
       (¬((3≤x1∧x1≤6→x2<m4)∧(14≤x1∧x1≤18→0≤opI ops x2)∧(want x1≠0→(zAY c0 x2).1=want x1))∧F (if want x1=0 then some (.inl ((ops.length:Int),(i:Int),(c0,c1,c2,c3,c4,c5,c6),(m0,m1,m2,m3,m4,m5,m6,m7),ops))else if(zAY c0 x2).1=want x1 then some (.inl ((ops.length:Int),(i:Int),(c0,c1,c2,c3,c4,c5,c6),(m0,m1,m2,m3,m4,m5,m6,m7),ops))else some (.inr (.inr (.inr false))))=some (.inr (.inr false))):=by
      intro F f1 f2 k1 k2;by_cases h3:want x1=0
      ·rw[if_pos h3];exact .inl ⟨⟨k1,k2,fun h=>absurd h3 h⟩,f2⟩
      ·rw[if_neg h3];by_cases h4:(zAY c0 x2).1=want x1
       ·rw[if_pos h4];exact .inl ⟨⟨k1,k2,fun _=>h4⟩,f2⟩
       ·rw[if_neg h4];exact .inr ⟨fun h=>h4 (h.2.2 h3),f1⟩
     have f2:bindE (some (.inl ((ops.length:Int),(i:Int),(c0,c1,c2,c3,c4,c5,c6),(m0,m1,m2,m3,m4,m5,m6,m7),ops)):Option ((Int×Int×Cls×Mth×List InsP)⊕((Int×Int×Cls×Mth×List InsP)⊕((List InsP×Cls×Mth)⊕Bool)))) (fun x=>some (.inl (x.1,IntKind.wrap .i64 (x.2.1+1),x.2.2.1,x.2.2.2.1,x.2.2.2.2)))=some (.inl ((ops.length:Int),((i+1:Nat):Int),(c0,c1,c2,c3,c4,c5,c6),(m0,m1,m2,m3,m4,m5,m6,m7),ops)):=by
      simp only[zAC]
      rw[wI (by omega) (by omega)];rfl
     by_cases k1:3≤x1∧x1≤6
     ·rw[if_pos k1];by_cases k2:m4≤x2
      ·rw[if_pos k2];exact .inr ⟨fun h=>by have:=h.1 k1;omega,rfl⟩
      ·rw[if_neg k2];have k3:¬(14≤x1∧x1≤18):=by omega
       rw[if_neg k3];exact hfin (bindE · _) rfl f2 (fun _=>by omega) fun h=>absurd h k3
     ·rw[if_neg k1];by_cases k3:14≤x1∧x1≤18
      ·rw[if_pos k3];by_cases k4:opI ops x2<0
       ·rw[if_pos k4];exact .inr ⟨fun h=>by have:=h.2.1 k3;omega,rfl⟩
       ·rw[if_neg k4];exact hfin (bindE · _) rfl f2 (fun h=>absurd h k1) fun _=>by omega
      ·rw[if_neg k3];exact hfin (bindE · _) rfl f2 (fun h=>absurd h k1) fun h=>absurd h k3
    ·intro hins;have hins:=(zAj (P:=fun x=>zHh c0 m4 ops x) (0,0,0)).2 hins;simp only
     refine zGj (fun i=>(ops,m6,(m6.length:Int),(i:Int),(c0,c1,c2,c3,c4,c5,c6),m0,m1,m2,m3,m4,m5,m6,m7)) (ops,(c0,c1,c2,c3,c4,c5,c6),m0,m1,m2,m3,m4,m5,m6,m7) false m6.length (fun i=>zDJ c0 m5.length ops (m6.getD i (0,0,0,0))) rfl ?_ ?_ ?_ ?_
     ·simp only[zIl,if_false]
     ·intro i hi;have i1:(i:Int)<m6.length:=by omega
      have i0:(0:Int)≤i:=by omega
      simp only[i1,i0,if_true,zDt,zBs,zAD,zTn]
      rw[zBZ (0,0,0,0) hi];generalize m6.getD i (0,0,0,0)=x;obtain⟨t0,t1,t2,t3⟩:=x;have hI:zDJ c0 m5.length ops (t0,t1,t2,t3)↔(t0<t1∧0≤opI ops t0∧(t1=(m5.length:Int)∨0≤opI ops t1)∧0≤opI ops t2∧(t3=0∨zBq c0 t3)):=Iff.rfl;rw[hI];simp only[q173 _ _ hol,z162,zAB,zAG,zAU]
      have f2:bindE (some (.inl (ops,m6,(m6.length:Int),(i:Int),(c0,c1,c2,c3,c4,c5,c6),m0,m1,m2,m3,m4,m5,m6,m7)):Option ((List InsP×List Trp×Int×Int×Cls×Mth)⊕((List InsP×List Trp×Int×Int×Cls×Mth)⊕((List InsP×Cls×Mth)⊕Bool)))) (fun x=>some (.inl (x.1,x.2.1,x.2.2.1,IntKind.wrap .i64 (x.2.2.2.1+1),x.2.2.2.2.1,x.2.2.2.2.2)))=some (.inl (ops,m6,(m6.length:Int),((i+1:Nat):Int),(c0,c1,c2,c3,c4,c5,c6),m0,m1,m2,m3,m4,m5,m6,m7)):=by
       simp only[zAC]
       rw[wI (by omega) (by omega)];rfl
      by_cases k1:t1≤t0
      ·rw[if_pos k1];exact .inr ⟨fun h=>by omega,rfl⟩
      rw[if_neg k1];by_cases k2:opI ops t0<0
      ·rw[if_pos k2];exact .inr ⟨fun h=>by omega,rfl⟩
      rw[if_neg k2];by_cases k3:opI ops t2<0
      ·rw[if_pos k3];exact .inr ⟨fun h=>by omega,rfl⟩
      rw[if_neg k3];by_cases k4:opI ops t1<0
      ·rw[if_pos k4];by_cases k5:t1=(m5.length:Int)
       ·rw[if_pos k5];by_cases k6:t3=0
        ·rw[if_pos k6];exact .inl ⟨⟨by omega,by omega,.inl k5,by omega,.inl k6⟩,f2⟩
        ·rw[if_neg k6];by_cases k7:(zAY c0 t3).1=2
         ·rw[if_pos k7];exact .inl ⟨⟨by omega,by omega,.inl k5,by omega,.inr (hok.cls.2 k7)⟩,f2⟩
         ·rw[if_neg k7];exact .inr ⟨fun h=>k7 (h.2.2.2.2.resolve_left k6).1,rfl⟩
       ·rw[if_neg k5];exact .inr ⟨fun h=>h.2.2.1.elim k5 fun h=>by omega,rfl⟩
      ·rw[if_neg k4];by_cases k6:t3=0
       ·rw[if_pos k6];exact .inl ⟨⟨by omega,by omega,.inr (by omega),by omega,.inl k6⟩,f2⟩
       ·rw[if_neg k6];by_cases k7:(zAY c0 t3).1=2
        ·rw[if_pos k7];exact .inl ⟨⟨by omega,by omega,.inr (by omega),by omega,.inr (hok.cls.2 k7)⟩,f2⟩
        ·rw[if_neg k7];exact .inr ⟨fun h=>k7 (h.2.2.2.2.resolve_left k6).1,rfl⟩
     ·intro htr;have htr:=(zAj (P:=fun x=>zDJ c0 m5.length ops x) (0,0,0,0)).2 htr;simp only
      refine zGj (fun i=>(ops,(if i=0 then(-1:Int)else(m7.getD (i-1) (0,[],[])).1),m7,(m7.length:Int),(i:Int),(c0,c1,c2,c3,c4,c5,c6),m0,m1,m2,m3,m4,m5,m6,m7)) () false m7.length (zUy c0 (m0,m1,m2,m3,m4,m5,m6,m7) ops) rfl ?_ ?_ ?_ ?_
      ·simp only[zIl,if_false]
      ·intro i hi;have i1:(i:Int)<m7.length:=by omega
       have i0:(0:Int)≤i:=by omega
       have hF:zUy c0 (m0,m1,m2,m3,m4,m5,m6,m7) ops i↔(0≤opI ops (m7.getD i (0,[],[])).1∧(0<i→(m7.getD (i-1) (0,[],[])).1<(m7.getD i (0,[],[])).1)∧((m7.getD i (0,[],[])).2.1.length:Int)=m4∧((m7.getD i (0,[],[])).2.2.length:Int)≤m3∧zBW c0 (m7.getD i (0,[],[])).2.1∧zBW c0 (m7.getD i (0,[],[])).2.2):=Iff.rfl;have hff:fFrm (m7.getD i (0,[],[])):=(zAj (P:=fFrm) (0,[],[])).1 hfr i hi
       have hnx:∀y:Int,y=(m7.getD i (0,[],[])).1→y=(if i+1=0 then(-1:Int)else(m7.getD (i+1-1) (0,[],[])).1):=by
        intro y hy;rw[if_neg (by omega),Nat.add_sub_cancel];exact hy
       simp only[i1,i0,if_true,zDt,zAD,zTn]
       rw[zBZ (0,[],[]) hi];rw[hF];generalize m7.getD i (0,[],[])=x at hff hnx
       have hpr:(x.1≤(if i=0 then(-1:Int)else(m7.getD (i-1) (0,[],[])).1))↔¬(0<i→(m7.getD (i-1) (0,[],[])).1<x.1):=by
        have:=hff.1.1;by_cases h0:i=0
        ·rw[if_pos h0];exact iff_of_false (by omega) fun h=>h fun h'=>absurd h' (by omega)
        ·rw[if_neg h0];exact⟨fun h h'=>by have:=h' (by omega);omega,fun h=>Classical.byContradiction fun h'=>h fun _=>by omega⟩
       generalize (if i=0 then(-1:Int)else(m7.getD (i-1) (0,[],[])).1)=before at hpr;have z1:F174 ((c0,c1,c2,c3,c4,c5,c6),x.2.1)=some (decide (zBW c0 x.2.1)):=q174 (c0,c1,c2,c3,c4,c5,c6) x.2.1 hp hok (by have:=hff.2.1.1;omega) fun k hk=>(hff.2.1.2 k hk).1
       have z2:F174 ((c0,c1,c2,c3,c4,c5,c6),x.2.2)=some (decide (zBW c0 x.2.2)):=q174 (c0,c1,c2,c3,c4,c5,c6) x.2.2 hp hok (by have:=hff.2.2.1;omega) fun k hk=>(hff.2.2.2 k hk).1
       simp only[q173 _ _ hol,z1,z2,zAB,zAU,zAG]
       by_cases k1:opI ops x.1<0
       ·rw[if_pos k1];exact .inr ⟨fun h=>by omega,rfl⟩
       rw[if_neg k1];by_cases k2:x.1≤before
       ·rw[if_pos k2];exact .inr ⟨fun h=>(hpr.1 k2) h.2.1,rfl⟩
       rw[if_neg k2];have k2':=Classical.not_not.1 fun h=>k2 (hpr.2 h)
       by_cases k3:(x.2.1.length:Int)=m4
       ·rw[if_pos k3];by_cases k4:m3<(x.2.2.length:Int)
        ·rw[if_pos k4];exact .inr ⟨fun h=>by omega,rfl⟩
        rw[if_neg k4];by_cases k5:zBW c0 x.2.1
        ·rw[if_pos k5];by_cases k6:zBW c0 x.2.2
         ·rw[if_pos k6];refine .inl ⟨⟨by omega,k2',k3,by omega,k5,k6⟩,?_⟩;simp only[zAC]
          rw[wI (by omega) (by omega),←hnx x.1 rfl];rfl
         ·rw[if_neg k6];exact .inr ⟨fun h=>k6 h.2.2.2.2.2,rfl⟩
        ·rw[if_neg k5];exact .inr ⟨fun h=>k5 h.2.2.2.2.1,rfl⟩
       ·rw[if_neg k3];exact .inr ⟨fun h=>k3 h.2.2.1,rfl⟩
      ·intro h;exact sd (by rw[hB];exact iff_of_true rfl ⟨rfl,by omega,h2,hins,htr,h⟩)
      ·intro h;exact sd (by rw[hB];exact iff_of_false (by simp) fun h'=>h h'.2.2.2.2.2)
     ·intro htr;exact sd (by rw[hB];exact iff_of_false (by simp) fun h=>htr ((zAj (P:=fun x=>zDJ c0 m5.length ops x) (0,0,0,0)).1 h.2.2.2.2.1))
    ·intro hins;exact sd (by rw[hB];exact iff_of_false (by simp) fun h=>hins ((zAj (P:=fun x=>zHh c0 m4 ops x) (0,0,0)).1 h.2.2.2.1))
   ·rw[if_neg h2,zAH];exact sd (by rw[hB];exact iff_of_false (by simp) fun h=>h2 h.2.2.1)
end
end Go.Proofs.YtdpapeledldifaaGreat
section
namespace Go.Stow
def chkV_2 {c:ClsP}(h:¬ zCw c.1 c.1.length 0=0):chkV c=2:=by unfold chkV;rw[if_pos h]
def chkV_3 {c:ClsP}(h1:zCw c.1 c.1.length 0=0)(h2:¬ zCH c):chkV c=3:=by
 unfold chkV;rw[if_neg (show ¬zCw c.1 c.1.length 0≠0 from fun h=>h h1),if_pos h2]
def chkV_4 {c:ClsP}(h1:zCw c.1 c.1.length 0=0)(h2:zCH c)(h3:¬ zEK c):chkV c=4:=by
 unfold chkV;rw[if_neg (show ¬zCw c.1 c.1.length 0≠0 from fun h=>h h1),if_neg (show ¬ ¬zCH c from fun h=>h h2),if_pos h3]
def chkV_5 {c:ClsP}(h1:zCw c.1 c.1.length 0=0)(h2:zCH c)(h3:zEK c)(h4:¬ zFO c):chkV c=5:=by
 unfold chkV;rw[if_neg (show ¬zCw c.1 c.1.length 0≠0 from fun h=>h h1),if_neg (show ¬ ¬zCH c from fun h=>h h2),if_neg (show ¬ ¬zEK c from fun h=>h h3),if_pos h4]
def chkV_6 {c:ClsP}(h1:zCw c.1 c.1.length 0=0)(h2:zCH c)(h3:zEK c)(h4:zFO c)(h5:¬ zHi c):chkV c=6:=by
 unfold chkV;rw[if_neg (show ¬zCw c.1 c.1.length 0≠0 from fun h=>h h1),if_neg (show ¬ ¬zCH c from fun h=>h h2),if_neg (show ¬ ¬zEK c from fun h=>h h3),if_neg (show ¬ ¬zFO c from fun h=>h h4),if_pos h5]
def zXi {c:ClsP}(h1:zCw c.1 c.1.length 0=0)(h2:zCH c)(h3:zEK c)(h4:zFO c)(h5:zHi c):chkV c=0:=by
 unfold chkV;rw[if_neg (show ¬zCw c.1 c.1.length 0≠0 from fun h=>h h1),if_neg (show ¬ ¬zCH c from fun h=>h h2),if_neg (show ¬ ¬zEK c from fun h=>h h3),if_neg (show ¬ ¬zFO c from fun h=>h h4),if_neg (show ¬ ¬zHi c from fun h=>h h5)]
end Go.Stow
namespace Go.Proofs.YtdpapeledldifaaGreat
open Go Go.AM Go.TM Go.Stow
def zXa {c:Cls}(h:fCls c):bndP c.1:=by
 obtain⟨⟨f1,_⟩,h1,_⟩:=h;exact⟨by omega,fun x hx=>by have:=(h1 x hx).2.1;omega⟩
def chk88 (c:Cls)(h:fCls c):F88 c=some (chkV c):=by
 have hp:=zXa h;have hb:=zUr h;obtain⟨⟨f1,f2,f3,f4⟩,_,hfl,_,_,_,_,hms⟩:=h;have hmf:∀m∈c.2.2.2.2.2.2,0≤m.1∧m.1≤255:=fun m hm=>(hms m hm).1
 have z15:=q15 c.1 hp f1;have z175:=q175 c hp hfl (by omega);have z176:=q176 c hp hfl (by omega);have z177:=q177 c hp hfl (by omega) hmf;have hbm:=hb.2.2.2.2;obtain⟨c0,c1,c2,c3,c4,c5,c6⟩:=c;simp only at f1 f2 f3 f4 hfl hmf hp z15 hbm;simp only[F88,z15,z175,z176,z177,zAB,zAU,zAG]
 by_cases h1:zCw c0 c0.length 0=0
 ·rw[if_pos h1];by_cases h2:zCH (c0,c1,c2,c3,c4,c5,c6)
  ·rw[if_pos h2];by_cases h3:zEK (c0,c1,c2,c3,c4,c5,c6)
   ·rw[if_pos h3];by_cases h4:zFO (c0,c1,c2,c3,c4,c5,c6)
    ·rw[if_pos h4];refine zGj (fun i=>((i:Int),c0,c1,c2,c3,c4,c5,c6)) () 6 c6.length (fun i=>¬has (c6.getD i mth0).1 8→zBb c0 (c6.getD i mth0)) rfl ?_ ?_ ?_ ?_
     ·simp only[zIl,if_false]
     ·intro i hi;have i1:(i:Int)<c6.length:=by omega
      have i0:(0:Int)≤i:=by omega
      simp only[i1,i0,if_true,zDt,zAD,zTn]
      rw[zBZ mth0 hi];have hm1:=(zAj (P:=fun m:Mth=>0≤m.1∧m.1≤255) mth0).1 hmf i hi;have hm2:=(zAj (P:=bMth) mth0).1 hbm i hi;generalize c6.getD i mth0=x at hm1 hm2;have z:F178 ((c0,c1,c2,c3,c4,c5,c6),x.1,x.2.1,x.2.2.1,x.2.2.2.1,x.2.2.2.2.1,x.2.2.2.2.2.1,x.2.2.2.2.2.2.1,x.2.2.2.2.2.2.2)=some (decide (¬has x.1 8→zBb c0 x)):=q178 (c0,c1,c2,c3,c4,c5,c6) x hp hm1 hm2;rw[z];simp only[zAB,zAG]
      by_cases e:¬has x.1 8→zBb c0 x
      ·rw[if_pos e,wI (by omega) (by omega)];exact .inl ⟨e,rfl⟩
      ·rw[if_neg e];exact .inr ⟨e,rfl⟩
     ·intro hall;rw[zXi h1 h2 h3 h4 ((zAj (P:=fun m:Mth=>¬has m.1 8→zBb c0 m) mth0).2 hall)]
     ·intro hall;rw[chkV_6 h1 h2 h3 h4 fun h:zHi _=>hall ((zAj (P:=fun m:Mth=>¬has m.1 8→zBb c0 m) mth0).1 h)]
    ·rw[if_neg h4,chkV_5 h1 h2 h3 h4]
   ·rw[if_neg h3,chkV_4 h1 h2 h3]
  ·rw[if_neg h2,chkV_3 h1 h2]
 ·rw[if_neg h1,chkV_2 h1]
def zFa {c:Cls}(h:put c≠[]):fCls c:=by
 refine Classical.byContradiction fun hn=>h (zFM fun hh=>hn hh.1)
def chk30 (c:Cls)(h:bCls c):F30 c=some (if put c=[]then 1 else chkV c):=by
 have z:=put22 c h;have z88:=fun hp:put c≠[]=>chk88 c (zFa hp)
 obtain⟨c0,c1,c2,c3,c4,c5,c6⟩:=c;simp only[F30,z,zAB,zAG]
 by_cases hp:put (c0,c1,c2,c3,c4,c5,c6)=[]
 ·rw[if_pos hp,if_pos hp]
 ·rw[if_neg hp,if_neg hp,z88 hp,zAB]
def chk29 (c:Cls)(h:bCls c):F29 c=some (if put c=[]then 1 else chkV c):=by
 have z:=put20 c h;by_cases hpu:put c=[]
 ·obtain⟨c0,c1,c2,c3,c4,c5,c6⟩:=c;simp only[F29,z,zAB,zAG]
  rw[if_pos hpu,if_pos hpu]
 have hf:=zFa hpu;have hp:=zXa hf;have hb:=h;obtain⟨⟨f1,f2,f3,f4⟩,_,hfl,_,_,_,_,hms⟩:=hf;have hmf:∀m∈c.2.2.2.2.2.2,0≤m.1∧m.1≤255:=fun m hm=>(hms m hm).1
 have z14:=q14 c.1 hp f1;have z83:=fun hok=>q83 c hp hfl (by omega) hok
 have z84:=fun i hi=>q84 c i hp hfl (by omega) hi
 have z85:=fun i hi=>q85 c i hp hfl (by omega) hmf hi
 have hfi:=flds_iff c;have hmi:=mths_iff c;have hbm:=hb.2.2.2.2;obtain⟨c0,c1,c2,c3,c4,c5,c6⟩:=c;simp only at f1 f2 f3 f4 hfl hmf hp z14 hbm z84 z85 hfi hmi hms z83;simp only[F29,z,z14,zAB,zAU,zAG]
 rw[if_neg hpu,if_neg hpu];by_cases h1:zCw c0 c0.length 0=0
 ·rw[if_pos h1];have hok:=zWc.1 h1;rw[z83 hok,zAB,zAG];by_cases h2:zCH (c0,c1,c2,c3,c4,c5,c6)
  ·rw[if_pos h2];refine zGj (fun i=>((c5.length:Int),(i:Int),c0,c1,c2,c3,c4,c5,c6)) (c0,c1,c2,c3,c4,c5,c6) 4 c5.length (zLj (c0,c1,c2,c3,c4,c5,c6)) rfl ?_ ?_ ?_ ?_
   ·simp only[zIl,if_false]
   ·intro i hi;have i1:(i:Int)<c5.length:=by omega
    simp only[i1,if_true,z84 i hi,zAB,zAG]
    by_cases e:zLj (c0,c1,c2,c3,c4,c5,c6) i
    ·rw[if_pos e,wI (by omega) (by omega)];exact .inl ⟨e,rfl⟩
    ·rw[if_neg e];exact .inr ⟨e,rfl⟩
   ·intro hall0;simp only
    refine zGj (fun i=>((c6.length:Int),(i:Int),c0,c1,c2,c3,c4,c5,c6)) (c0,c1,c2,c3,c4,c5,c6) 5 c6.length (zLi (c0,c1,c2,c3,c4,c5,c6)) rfl ?_ ?_ ?_ ?_
    ·simp only[zIl,if_false]
    ·intro i hi;have i1:(i:Int)<c6.length:=by omega
     simp only[i1,if_true,z85 i hi,zAB,zAG]
     by_cases e:zLi (c0,c1,c2,c3,c4,c5,c6) i
     ·rw[if_pos e,wI (by omega) (by omega)];exact .inl ⟨e,rfl⟩
     ·rw[if_neg e];exact .inr ⟨e,rfl⟩
    ·intro hall2;simp only
     refine zGj (fun i=>(c6,(c6.length:Int),(i:Int),c0,c1,c2,c3,c4,c5,c6)) () 6 c6.length (fun i=>¬has (c6.getD i mth0).1 8→zBb c0 (c6.getD i mth0)) rfl ?_ ?_ ?_ ?_
     ·simp only[zIl,if_false]
     ·intro i hi;have i1:(i:Int)<c6.length:=by omega
      have i0:(0:Int)≤i:=by omega
      simp only[i1,i0,if_true,zDt,zAD,zTn]
      rw[zBZ mth0 hi];have hm1:=(zAj (P:=fun m:Mth=>0≤m.1∧m.1≤255) mth0).1 hmf i hi;have hm2:=(zAj (P:=bMth) mth0).1 hbm i hi;have hm3:=(zAj (P:=fMth) mth0).1 hms i hi;have hm4:zBJ c0 (c6.getD i mth0).2.2.1 Dsc:=(hall2 i hi).2.1;generalize c6.getD i mth0=x at hm1 hm2 hm3 hm4;have z87:F87 ((c0,c1,c2,c3,c4,c5,c6),x.1,x.2.1,x.2.2.1,x.2.2.2.1,x.2.2.2.2.1,x.2.2.2.2.2.1,x.2.2.2.2.2.2.1,x.2.2.2.2.2.2.2)=some (decide (zBb c0 x)):=q87 (c0,c1,c2,c3,c4,c5,c6) x hp hok hm1 hm2 hm3.2.2.2.2.2.1 hm3.2.2.2.2.2.2.2.2 hm4;rw[q86 _ hm1.1 hm1.2,zAB,zAG];by_cases e1:has x.1 8
      ·rw[if_pos e1];simp only[zAC]
       rw[wI (by omega) (by omega)];exact .inl ⟨fun h=>absurd e1 h,rfl⟩
      ·rw[if_neg e1,z87,zAB,zAG];by_cases e:zBb c0 x
       ·rw[if_pos e];simp only[zAC]
        rw[wI (by omega) (by omega)];exact .inl ⟨fun _=>e,rfl⟩
       ·rw[if_neg e];exact .inr ⟨fun h=>e (h e1),rfl⟩
     ·intro hall;rw[zXi h1 h2 (hfi.1 hall0) (hmi.1 hall2) ((zAj (P:=fun m:Mth=>¬has m.1 8→zBb c0 m) mth0).2 hall)]
     ·intro hall;rw[chkV_6 h1 h2 (hfi.1 hall0) (hmi.1 hall2) fun h:zHi _=>hall ((zAj (P:=fun m:Mth=>¬has m.1 8→zBb c0 m) mth0).1 h)]
    ·intro hall2;rw[chkV_5 h1 h2 (hfi.1 hall0) fun h=>hall2 (hmi.2 h)]
   ·intro hall;rw[chkV_4 h1 h2 fun h=>hall (hfi.2 h)]
  ·rw[if_neg h2,chkV_3 h1 h2]
 ·rw[if_neg h1,chkV_2 h1]
end Go.Proofs.YtdpapeledldifaaGreat
end
namespace Go.Proofs.YtdpapeledldifaaGreat
section
open Go Go.AM Go.TM Go.Stow
def zSL {n:Int}(h0:0≤n)(h1:n≤255):IntKind.wrap .u8 n=n:=by
 have h:IntKind.wrap .u8 n=n % 256:=by
  simp[IntKind.wrap,IntKind.bits,IntKind.signed]
 rw[h];omega
def rt1 {n:Int}(h:i1 n)(r:List UInt8):g1 (w1 n++r)=some (n,r):=by
 unfold i1 at h;unfold w1;simp only[zCa,zNa,g1,zSL h.1 h.2,UInt8.toNat_ofNat',zSe,zPi,and_true]
 omega
def rt2 {n:Int}(h:i2 n)(r:List UInt8):g2 (tS n++r)=some (n,r):=by
 unfold i2 at h;have hd:Int.tdiv n 256=n / 256:=Int.tdiv_eq_ediv_of_nonneg h.1;have hm:Int.tmod n 256=n % 256:=Int.tmod_eq_emod_of_nonneg h.1;unfold tS g2;rw[hd,hm,wI (by omega) (by omega),zAa,rt1 (n:=n / 256) ⟨by omega,by omega⟩,zOb,rt1 (n:=n % 256) ⟨by omega,by omega⟩,zOb];simp only[zSe,zPi,and_true]
 omega
def rtT (t r:List UInt8):gT (t.length:Int) (t++r)=some (t,r):=by
 unfold gT;rw[if_pos (by simp only[zLa];omega),zTn,List.take_left,List.drop_left]
def rtRep {β:Type}{g:List UInt8→Option (β×List UInt8)}{p:β→List UInt8}:∀(l:List β) (r:List UInt8),(∀x∈l,∀r,g (p x++r)=some (x,r))→gRep g l.length ((l.map p).flatten++r)=some (l,r)
 |[],r,_=>rfl
 | x::l,r,h=>by
   simp only[zMc,List.flatten_cons,zLc,gRep,zAa]
   rw[h x (by simp),zOb,rtRep l r fun y hy=>h y (by simp[hy])];rfl
def zJc {β:Type}{g:List UInt8→Option (β×List UInt8)}{p:β→List UInt8}{most:Int}{l:List β}(hl:(l.length:Int)≤most)(h255:most≤255)(h:∀ x∈l,∀ r,g (p x++r)=some (x,r))(r:List UInt8) :
  zBj most g (w1 l.length++((l.map p).flatten++r))=some (l,r):=by
 unfold zBj;rw[rt1 ⟨by omega,by omega⟩,zOb,if_neg (by simp only;omega)];simp only[zTn]
 exact rtRep l r h
def cEnt (e:Cst):Prop:=if e.1=1 then e.2.2.1=0∧e.2.2.2=0 else if e.1=2 then e.2.1=[]∧e.2.2.2=0 else e.2.1=[]
def cEnt_ok {p:List Cst}{e:Cst}(h:zDs p e):cEnt e:=by
 unfold zDs at h;unfold cEnt;by_cases h1:e.1=1
 ·rw[if_pos h1]at h ⊢;exact⟨h.1,h.2.1⟩
 ·rw[if_neg h1]at h ⊢;by_cases h2:e.1=2
  ·rw[if_pos h2]at h ⊢;exact⟨h.1,h.2.1⟩
  ·rw[if_neg h2]at h ⊢;split at h
   ·exact h.1
   ·split at h
    ·exact h.1
    ·split at h
     ·exact h.1
     ·exact h.elim
def rtEnt {e:Cst}(h:fEnt e)(hc:cEnt e)(r:List UInt8):zCj (pEnt tS e++r)=some (e,r):=by
 obtain⟨k,t,a,b⟩:=e;obtain⟨⟨h0,h1⟩,h2,h3,h4⟩:=h;simp only at h0 h1 h2 h3 h4;unfold cEnt at hc;simp only at hc;unfold zCj pEnt;simp only
 rw[zAa,rt1 ⟨by omega,by omega⟩,zOb];unfold gEnt;simp only
 by_cases k1:k=1
 ·rw[if_pos k1]at hc;obtain⟨rfl,rfl⟩:=hc;rw[if_pos k1,if_pos k1,zAa,rt1 ⟨by omega,by omega⟩,zOb,rtT];simp only[zOb,k1]
 ·rw[if_neg k1]at hc;rw[if_neg k1,if_neg k1];by_cases k2:k=2
  ·rw[if_pos k2]at hc;obtain⟨rfl,rfl⟩:=hc;rw[if_pos k2,if_pos k2,rt2 h3];simp only[zOb,k2]
  ·rw[if_neg k2]at hc;subst hc;rw[if_neg k2,if_neg k2,if_pos (by omega),zAa,rt2 h3,zOb,rt2 h4];rfl
def cKnd (k:Knd):Prop:=k.1≠3→k.2=0
def rtKnd {k:Knd}(h:fKnd k)(hc:cKnd k)(r:List UInt8):gKnd (pKnd tS k++r)=some (k,r):=by
 obtain⟨a,b⟩:=k;obtain⟨⟨h0,h1⟩,h2⟩:=h;simp only at h0 h1 h2;unfold gKnd pKnd;simp only
 rw[zAa,rt1 ⟨by omega,by omega⟩,zOb];simp only
 by_cases k3:a=3
 ·rw[if_pos k3,if_pos k3,rt2 h2];simp only[zOb,k3]
 ·have:b=0:=hc k3;subst this;rw[if_neg k3,if_neg k3,if_neg (by omega)];rfl
def rtTrp {t:Trp}(h:fTrp t)(r:List UInt8):gTrp (pTrp tS t++r)=some (t,r):=by
 obtain⟨h1,h2,h3,h4⟩:=h;unfold gTrp pTrp;simp only[zAa,rt2 h1,rt2 h2,rt2 h3,rt2 h4,zOb]
def rtKnds {l:List Knd}(h:fKnds l)(hc:∀ k∈l,cKnd k)(r:List UInt8):zBj 8 gKnd (zJs tS l++r)=some (l,r):=by
 unfold zJs;rw[zAa];exact zJc (by have:=h.1;omega) (by omega) (fun k hk r=>rtKnd (h.2 k hk) (hc k hk) r) r
def cFrm (f:Frm):Prop:=(∀k∈f.2.1,cKnd k)∧∀k∈f.2.2,cKnd k
def rtFrm {f:Frm}(h:fFrm f)(hc:cFrm f)(r:List UInt8):gFrm (pFrm tS f++r)=some (f,r):=by
 obtain⟨h1,h2,h3⟩:=h;unfold gFrm pFrm;simp only[zAa]
 rw[rt2 h1,zOb];simp only
 rw[rtKnds h2 hc.1,zOb];simp only
 rw[rtKnds h3 hc.2,zOb]
def rtFld {f:Fld}(h:fFld f)(r:List UInt8):gFld (pFld tS f++r)=some (f,r):=by
 obtain⟨h1,h2,h3⟩:=h;unfold gFld pFld;simp only[zAa,rt1 h1,rt2 h2,rt2 h3,zOb]
def cMth (m:Mth):Prop:=(zFg m.1→m.2.2.2.1=0∧m.2.2.2.2.1=0∧m.2.2.2.2.2.1=[]∧m.2.2.2.2.2.2.1=[]∧m.2.2.2.2.2.2.2=[])∧∀f∈m.2.2.2.2.2.2.2,cFrm f
def rtMth {m:Mth}(h:fMth m)(hc:cMth m)(r:List UInt8):gMth (pMth tS abS m++r)=some (m,r):=by
 obtain⟨f,n,d,s,lo,code,tr,fr⟩:=m;obtain⟨h1,h2,h3,h4,h5,h6,⟨h7,h8⟩,h9,h10⟩:=h;simp only at h1 h2 h3 h4 h5 h6 h7 h8 h9 h10;unfold gMth pMth;simp only[zAa]
 rw[rt1 h1,zOb];unfold m1;simp only
 rw[rt2 h2,zOb];unfold m2;simp only
 rw[rt2 h3,zOb];unfold m3;simp only
 by_cases ha:zFg f
 ·obtain⟨e1,e2,e3,e4,e5⟩:=hc.1 ha;simp only at e1 e2 e3 e4 e5;subst e1 e2 e3 e4 e5;rw[if_pos ((zOe h1.1 h1.2).2 ha),if_pos ha];rfl
 ·rw[if_neg fun h=>ha ((zOe h1.1 h1.2).1 h),if_neg ha];unfold zUq;simp only[zAa]
  rw[rt1 h4,zOb];unfold b3;simp only
  rw[rt1 h5,zOb];unfold b4;simp only
  rw[rt2 ⟨by omega,by omega⟩,zOb];unfold b5;simp only
  rw[if_neg (by omega),rtT,zOb];unfold b6;simp only
  rw[zJc (by omega) (by omega) (fun t ht r=>rtTrp (h8 t ht) r),zOb];unfold b7;simp only
  rw[zJc (by omega) (by omega) (fun t ht r=>rtFrm (h10 t ht) (hc.2 t ht) r),zOb]
def rtCls {c:Cls}(h:fCls c)(hp:∀ e∈c.1,cEnt e)(hm:∀ m∈c.2.2.2.2.2.2,cMth m):gCls (pCls tS abS c)=some (c,[]):=by
 obtain⟨p,f,n,s,fa,fi,ms⟩:=c;obtain⟨⟨k1,k2,k3,k4⟩,h1,h2,h3,h4,h5,h6,h7⟩:=h;simp only at k1 k2 k3 k4 h1 h2 h3 h4 h5 h6 h7 hp hm;unfold gCls pCls;have e4:((4:Int))=(([83,84,79,87]:List UInt8).length:Int):=rfl;rw[e4,rtT,zOb];unfold gc1;simp only[not_true,if_false]
 unfold gc2;rw[zJc (by omega) (by omega) (fun e he r=>rtEnt (h1 e he) (hp e he) r),zOb];unfold gc3;simp only
 rw[rt1 h2,zOb];unfold gc4;simp only
 rw[rt2 h3,zOb];unfold gc5;simp only
 rw[rt2 h4,zOb];unfold gc6';simp only
 rw[zJc (by omega) (by omega) (fun e he r=>rt2 (h5 e he) r),zOb];unfold gc7;simp only
 rw[zJc (by omega) (by omega) (fun e he r=>rtFld (h6 e he) r),zOb];unfold gc8;simp only
 have:=zJc (g:=gMth) (p:=pMth tS abS) (most:=6) (l:=ms) (by omega) (by omega) (fun e he r=>rtMth (h7 e he) (hm e he) r) [];rw[zAn]at this;rw[this,zOb]
end
end Go.Proofs.YtdpapeledldifaaGreat
namespace Go.Stow
section
def argB (x:InsP):List UInt8 :=
 if argN x.2.1=1 then [UInt8.ofNat x.2.2.toNat]else if argN x.2.1=2 then [UInt8.ofNat (((x.2.2+65536) % 65536).toNat / 256),UInt8.ofNat (((x.2.2+65536) % 65536).toNat % 256)]else []
def encI (x:InsP):List UInt8:=UInt8.ofNat x.2.1.toNat::argB x
def enc (l:List InsP):List UInt8:=l.flatMap encI
def zEQ (x:InsP):Prop:=0≤argN x.2.1∧(argN x.2.1=0→x.2.2=0)∧(argN x.2.1=1→0≤x.2.2∧x.2.2≤255) ∧
 (argN x.2.1=2→x.2.1=1 → -32768≤x.2.2∧x.2.2≤32767)∧(argN x.2.1=2→x.2.1≠1→0≤x.2.2∧x.2.2≤65535)
def zDr:Int→List InsP→Prop
 |_,[]=>True
 |a,x::l=>x.1=a∧zDr (a+1+argN x.2.1) l
def endO:Int→List InsP→Int
 |a,[]=>a
 |a,x::l=>endO (a+1+argN x.2.1) l
def zDR (op:Int):(argN op = -1∨argN op=0∨argN op=1∨argN op=2)∧(0≤argN op→0≤op∧op≤34):=by
 unfold argN
 repeat' split
 all_goals first|(constructor<;>omega)
def zUH {x:InsP}(h:0≤argN x.2.1):((argB x).length:Int)=argN x.2.1:=by
 have:=(zDR x.2.1).1;unfold argB;split
 ·rename_i h;rw[h];rfl
 ·split
  ·rename_i h;rw[h];rfl
  ·simp only[zLn];omega
def op_byte {op:Int}(h:0≤argN op):((UInt8.ofNat op.toNat).toNat:Int)=op:=by
 have:=(zDR op).2 h;rw[UInt8.toNat_ofNat'];omega
def numB_arg {x:InsP}(h:zEQ x):numB x.2.1 (argB x)=x.2.2:=by
 obtain⟨at',op,n⟩:=x;obtain⟨h0,h1,h2,h3,h4⟩:=h;simp only at h0 h1 h2 h3 h4;have hr:=(zDR op).1;unfold argB;simp only
 by_cases e1:argN op=1
 ·rw[if_pos e1];obtain⟨a1,a2⟩:=h2 e1;simp only[numB,UInt8.toNat_ofNat']
  omega
 ·rw[if_neg e1];by_cases e2:argN op=2
  ·rw[if_pos e2];simp only[numB,UInt8.toNat_ofNat']
   by_cases o1:op=1
   ·obtain⟨a1,a2⟩:=h3 e2 o1;split<;>omega
   ·obtain⟨a1,a2⟩:=h4 e2 o1;rw[if_neg (by omega)];omega
  ·rw[if_neg e2];simp only[numB]
   rw[h1 (by omega)]
def zTv (x:InsP)(l:List InsP):enc (x::l)=UInt8.ofNat x.2.1.toNat::(argB x++enc l):=rfl
def zTZ:∀(l:List InsP) (a:Int) (k:Nat),(∀x∈l,zEQ x)→zDr a l→(enc l).length≤k→opsN k a (enc l)=some l
 | [],a,k,_,_,_=>by
   have:enc []=[]:=rfl;rw[this];cases k<;>rfl
 | x::l,a,k,hg,hp,hk=>by
   have hx:=hg x (by simp);have hl:=zUH hx.1;rw[zTv]at hk ⊢;simp only[zLc,zLa]at hk;cases k with
   |zero=>omega
   | succ k=>
     simp only[opsN]
     rw[op_byte hx.1];have hn:(argN x.2.1).toNat=(argB x).length:=by omega
     rw[if_neg (by simp only[zLa];have:=hx.1;omega),hn,List.drop_left,List.take_left,numB_arg hx,zTZ l _ k (fun y hy=>hg y (by simp[hy])) hp.2 (by omega)];obtain⟨p,op,n⟩:=x;have:=hp.1;simp only at this;subst this;rfl
def zRx:∀(l:List InsP) (a:Int),(∀x∈l,zEQ x)→endO a l=a+(enc l).length
 |[],a,_=>by simp[endO,enc]
 | x::l,a,hg=>by
   have hx:=hg x (by simp);have hl:=zUH hx.1;rw[zTv];simp only[endO,zLc,zLa]
   rw[zRx l _ fun y hy=>hg y (by simp[hy])];omega
def zJw:∀(k:Nat) (a:Int) (s:List UInt8) (l:List InsP),opsN k a s=some l→(∀x∈l,zEQ x)∧zDr a l∧endO a l=a+s.length
 | 0,a,[],l,h=>by
   obtain rfl:=Option.some.inj h;exact⟨by simp,trivial,by simp[endO]⟩
 | k+1,a,[],l,h=>by
   obtain rfl:=Option.some.inj h;exact⟨by simp,trivial,by simp[endO]⟩
 |0,a,x::s,l,h=>by cases h
 | k+1,a,x::s,l,h=>by
   simp only[opsN]at h;by_cases hb:argN x.toNat<0∨(s.length:Int)<argN x.toNat
   ·rw[if_pos hb]at h;cases h
   ·rw[if_neg hb]at h;cases ho:opsN k (a+1+argN x.toNat) (s.drop (argN x.toNat).toNat)with
    |none=>rw[ho]at h;cases h
    | some r=>
      rw[ho]at h;simp only[Option.map_some,zSe]at h;subst h;obtain⟨h1,h2,h3⟩:=zJw k _ _ r ho;refine⟨?_,⟨rfl,h2⟩,?_⟩
      ·intro y hy;rcases List.mem_cons.1 hy with rfl|hy
       ·have hr:=(zDR x.toNat).1;have h0:0≤argN x.toNat:=by omega
        have hlen:(s.take (argN x.toNat).toNat).length=(argN x.toNat).toNat:=by rw[zLt];omega
        generalize s.take (argN x.toNat).toNat=t at hlen;refine⟨h0,fun e=>?_,fun e=>?_,fun e o1=>?_,fun e o1=>?_⟩
        all_goals simp only at e ⊢;rw[e]at hlen
        ·rw[List.length_eq_zero_iff.1 hlen];rfl
        ·obtain⟨c,rfl⟩:=List.length_eq_one_iff.1 hlen;have:=c.toNat_lt;simp only[numB];omega
        ·match t,hlen with
         | [c,d],_=>
           have:=c.toNat_lt;have:=d.toNat_lt;simp only[numB]
           simp only at o1;split<;>omega
        ·match t,hlen with
         | [c,d],_=>
           have:=c.toNat_lt;have:=d.toNat_lt;simp only[numB]
           simp only at o1;rw[if_neg (by omega)];omega
       ·exact h1 y hy
      ·simp only[endO]
       rw[h3];simp only[zLc,zLd]
       omega
def kept:Int→List InsP→List InsP
 |_,[]=>[]
 |a,x::l=>if x.2.1=0∧l≠[]then kept a l else(a,x.2.1,x.2.2)::kept (a+1+argN x.2.1) l
def mapP:Int→List InsP→List (Int×Int)
 |_,[]=>[]
 |a,x::l=>(x.1,a)::mapP (if x.2.1=0∧l≠[]then a else a+1+argN x.2.1) l
def endK:Int→List InsP→Int
 |a,[]=>a
 |a,x::l=>endK (if x.2.1=0∧l≠[]then a else a+1+argN x.2.1) l
def toP (l:List InsP)(p:Int):Int:=match(mapP 0 l).find? (fun q=>decide (q.1=p))with
 |some q=>q.2
 |none=>endK 0 l
def OpAt (l:List InsP)(p:Int):Prop:=∃x∈l,x.1=p
def zDx (l:List InsP)(p:Int):0≤opI l p↔OpAt l p:=by
 unfold opI OpAt;cases h:l.findIdx? (fun x=>decide (x.1=p))with
 | none=>
   simp only
   rw[List.findIdx?_eq_none_iff]at h;constructor
   ·intro h;omega
   ·rintro⟨x,hx,e⟩;have:=h x hx;simp[e]at this
 | some j=>
   simp only
   constructor
   ·intro _;rw[List.findIdx?_eq_some_iff_getElem]at h;obtain⟨h1,h2,_⟩:=h;exact⟨l[j],List.getElem_mem h1,by simpa using h2⟩
   ·intro _;omega
def zKF:∀(a:Int) (l:List InsP),l≠[]→∃y∈kept a l,y.1=a
 |a,[],h=>absurd rfl h
 | a,x::l,_=>by
   unfold kept;by_cases h:x.2.1=0∧l≠[]
   ·rw[if_pos h];exact zKF a l h.2
   ·rw[if_neg h];exact⟨_,List.mem_cons_self,rfl⟩
def zIr:∀(a:Int) (l:List InsP),zDr a (kept a l)∧endO a (kept a l)=endK a l
 |a,[]=>⟨trivial,rfl⟩
 | a,x::l=>by
   unfold kept endK;by_cases h:x.2.1=0∧l≠[]
   ·rw[if_pos h,if_pos h];exact zIr a l
   ·rw[if_neg h,if_neg h];obtain⟨h1,h2⟩:=zIr (a+1+argN x.2.1) l;exact⟨⟨rfl,h1⟩,h2⟩
def zHO:∀(a:Int) (l:List InsP) (y:InsP),y∈kept a l→∃x∈l,y.2=x.2
 |a,[],y,h=>by cases h
 | a,x::l,y,h=>by
   unfold kept at h;by_cases hc:x.2.1=0∧l≠[]
   ·rw[if_pos hc]at h;obtain⟨z,hz,e⟩:=zHO a l y h;exact⟨z,List.mem_cons_of_mem _ hz,e⟩
   ·rw[if_neg hc]at h;rcases List.mem_cons.1 h with rfl|h
    ·exact⟨x,List.mem_cons_self,rfl⟩
    ·obtain⟨z,hz,e⟩:=zHO _ l y h;exact⟨z,List.mem_cons_of_mem _ hz,e⟩
def zXC:∀(a:Int) (l:List InsP),l≠[]→kept a l≠[]:=fun a l h e=>by
 obtain⟨y,hy,_⟩:=zKF a l h;rw[e]at hy;cases hy
def zGk:List InsP→Prop
 |[]=>True
 |x::l=>(x.2.1=0→l=[])∧zGk l
def zHw:∀(a:Int) (l:List InsP),zGk (kept a l)
 |a,[]=>trivial
 | a,x::l=>by
   unfold kept;by_cases h:x.2.1=0∧l≠[]
   ·rw[if_pos h];exact zHw a l
   ·rw[if_neg h];refine⟨fun h0=>?_,zHw _ l⟩;have:l=[]:=Classical.byContradiction fun hl=>h ⟨h0,hl⟩
    rw[this];rfl
def zGk.at:∀{l:List InsP},zGk l→∀i (h:i+1<l.length),(l[i]'(by omega)).2.1≠0
 |[],_,i,h=>by simp at h
 |[x],_,i,h=>by simp at h
 |x::y::l,hn,0,h=>fun e=>by have:=hn.1 e;cases this
 | x::y::l,hn,i+1,h=>by
   simp only[zLc]at h;simp only[List.getElem_cons_succ]
   exact zGk.at hn.2 i (by simp only[zLc];omega)
def zJq:∀(a:Int) (l:List InsP),(∀x∈l,0≤argN x.2.1)→zDr a l→a≤endO a l∧∀x∈l,a≤x.1∧x.1<endO a l
 |a,[],_,_=>⟨by simp[endO],by simp⟩
 | a,x::l,hg,hp=>by
   have hx:=hg x (by simp);obtain⟨h1,h2⟩:=zJq _ l (fun y hy=>hg y (by simp[hy])) hp.2;have e:endO a (x::l)=endO (a+1+argN x.2.1) l:=rfl;rw[e];refine⟨by omega,fun y hy=>?_⟩;rcases List.mem_cons.1 hy with rfl|hy
   ·have:=hp.1;omega
   ·have:=h2 y hy;omega
def zGd:∀(a b:Int) (l:List InsP),(∀x∈l,0≤argN x.2.1)→a≤endK a l∧endK a l-a≤endO b l-b
 |a,b,[],_=>by simp[endK,endO]
 | a,b,x::l,hg=>by
   have hx:=hg x (by simp);unfold endK endO;split
   ·have:=zGd a (b+1+argN x.2.1) l fun y hy=>hg y (by simp[hy])
    omega
   ·have:=zGd (a+1+argN x.2.1) (b+1+argN x.2.1) l fun y hy=>hg y (by simp[hy])
    omega
def zNw:∀(a:Int) (l:List InsP) (p:Int),OpAt l p↔∃q∈mapP a l,q.1=p
 |a,[],p=>by simp[OpAt,mapP]
 | a,x::l,p=>by
   unfold mapP;have ih:=zNw (if x.2.1=0∧l≠[]then a else a+1+argN x.2.1) l p;constructor
   ·rintro⟨y,hy,e⟩;rcases List.mem_cons.1 hy with rfl|hy
    ·exact⟨_,List.mem_cons_self,e⟩
    ·obtain⟨q,hq,e'⟩:=ih.1 ⟨y,hy,e⟩;exact⟨q,List.mem_cons_of_mem _ hq,e'⟩
   ·rintro⟨q,hq,e⟩;rcases List.mem_cons.1 hq with rfl|hq
    ·exact⟨x,List.mem_cons_self,e⟩
    ·obtain⟨y,hy,e'⟩:=ih.2 ⟨q,hq,e⟩;exact⟨y,List.mem_cons_of_mem _ hy,e'⟩
def zNv:∀(a:Int) (l:List InsP) (q:Int×Int),q∈mapP a l→OpAt (kept a l) q.2
 |a,[],q,h=>by cases h
 | a,x::l,q,h=>by
   unfold mapP at h;unfold kept;by_cases hc:x.2.1=0∧l≠[]
   ·rw[if_pos hc]at h ⊢;rcases List.mem_cons.1 h with rfl|h
    ·exact zKF a l hc.2
    ·exact zNv a l q h
   ·rw[if_neg hc]at h ⊢;rcases List.mem_cons.1 h with rfl|h
    ·exact⟨_,List.mem_cons_self,rfl⟩
    ·obtain⟨y,hy,e⟩:=zNv _ l q h;exact⟨y,List.mem_cons_of_mem _ hy,e⟩
def zFd:∀(a b:Int) (l:List InsP),(∀x∈l,0≤argN x.2.1)→zDr b l →
  (∀q∈mapP a l,b≤q.1∧a≤q.2)∧(mapP a l).Pairwise fun q q'=>q.1<q'.1∧q.2≤q'.2
 |a,b,[],_,_=>⟨by simp[mapP],List.Pairwise.nil⟩
 | a,b,x::l,hg,hp=>by
   have hx:=hg x (by simp);obtain⟨h1,h2⟩:=zFd (if x.2.1=0∧l≠[]then a else a+1+argN x.2.1) _ l (fun y hy=>hg y (by simp[hy])) hp.2;have hle:a≤(if x.2.1=0∧l≠[]then a else a+1+argN x.2.1):=by split<;>omega
   have hb:=hp.1;unfold mapP;refine⟨fun q hq=>?_,List.pairwise_cons.2 ⟨fun q hq=>?_,h2⟩⟩
   ·rcases List.mem_cons.1 hq with rfl|hq
    ·simp only;omega
    ·have:=h1 q hq;omega
   ·have:=h1 q hq;simp only;omega
def zFq {l:List InsP}{p:Int}(h:OpAt l p):∃q∈mapP 0 l,q.1=p∧toP l p=q.2:=by
 obtain⟨q0,hq0,e0⟩:=(zNw 0 l p).1 h;unfold toP;cases hf:(mapP 0 l).find? (fun q=>decide (q.1=p))with
 | none=>
   have:=List.find?_eq_none.1 hf q0 hq0;simp[e0]at this
 |some q=>exact⟨q,List.mem_of_find?_eq_some hf,by simpa using List.find?_some hf,rfl⟩
def zGv {l:List InsP}{p:Int}(h:¬ OpAt l p):toP l p=endK 0 l:=by
 unfold toP;cases hf:(mapP 0 l).find? (fun q=>decide (q.1=p))with
 |none=>rfl
 |some q=>exact absurd ((zNw 0 l p).2 ⟨q,List.mem_of_find?_eq_some hf,by simpa using List.find?_some hf⟩) h
def toP_at {l:List InsP}{p:Int}(h:OpAt l p):OpAt (kept 0 l) (toP l p):=by
 obtain⟨q,h1,_,h3⟩:=zFq h;rw[h3];exact zNv 0 l q h1
def toP_le {l:List InsP}(hg:∀ x∈l,0≤argN x.2.1)(hp:zDr 0 l){p p':Int}(h:OpAt l p)(h':OpAt l p')(hlt:p<p'):toP l p≤toP l p':=by
 obtain⟨q,h1,h2,h3⟩:=zFq h;obtain⟨q',h1',h2',h3'⟩:=zFq h';obtain⟨i,hi,rfl⟩:=List.mem_iff_getElem.1 h1;obtain⟨j,hj,rfl⟩:=List.mem_iff_getElem.1 h1';have hm:=List.pairwise_iff_getElem.1 (zFd 0 0 l hg hp).2;rw[h3,h3'];rcases Nat.lt_trichotomy i j with c|c|c
 ·exact(hm i j hi hj c).2
 ·subst c;omega
 ·have:=(hm j i hj hi c).1;omega
def zVr {l:List InsP}(hg:∀ x∈l,0≤argN x.2.1)(p:Int):0≤toP l p∧toP l p≤endK 0 l:=by
 have hk:=zIr 0 l;have he:=zGd 0 0 l hg;by_cases h:OpAt l p
 ·obtain⟨y,hy,e⟩:=toP_at h
  have hg':∀x∈kept 0 l,0≤argN x.2.1:=fun x hx=>by
   obtain⟨z,hz,e⟩:=zHO 0 l x hx;rw[e];exact hg z hz
  have:=(zJq 0 _ hg' hk.1).2 y hy;rw[hk.2]at this;omega
 ·rw[zGv h];omega
def ren (l:List InsP)(x:InsP):InsP:=(x.1,x.2.1,if 14≤x.2.1∧x.2.1≤18 then toP l x.2.2 else x.2.2)
def tidL (l:List InsP):List InsP:=(kept 0 l).map (ren l)
def zWU {f:InsP→InsP}(hf:∀ x,(f x).1=x.1∧(f x).2.1=x.2.1):∀(a:Int) (l:List InsP),(zDr a l→zDr a (l.map f))∧endO a (l.map f)=endO a l∧(zGk l→zGk (l.map f))
 |a,[]=>⟨id,rfl,id⟩
 | a,x::l=>by
   obtain⟨e1,e2⟩:=hf x;obtain⟨h1,h2,h3⟩:=zWU hf (a+1+argN x.2.1) l;simp only[zMc,zDr,endO,zGk,e1,e2]
   refine⟨fun h=>⟨h.1,h1 h.2⟩,h2,fun h=>⟨fun h0=>by rw[h.1 h0];rfl,h3 h.2⟩⟩
def ren_f (l:List InsP)(x:InsP):(ren l x).1=x.1∧(ren l x).2.1=x.2.1:=⟨rfl,rfl⟩
def map_at {f:InsP→InsP}(hf:∀ x,(f x).1=x.1∧(f x).2.1=x.2.1){l:List InsP}{p:Int}:OpAt (l.map f) p↔OpAt l p:=by
 constructor
 ·rintro⟨x,hx,e⟩;obtain⟨y,hy,rfl⟩:=List.mem_map.1 hx;exact⟨y,hy,by rw[←(hf y).1];exact e⟩
 ·rintro⟨y,hy,e⟩;exact⟨f y,List.mem_map_of_mem hy,by rw[(hf y).1];exact e⟩
def zSb (l:List InsP):zDr 0 (tidL l)∧endO 0 (tidL l)=endK 0 l∧zGk (tidL l):=by
 obtain⟨h1,h2⟩:=zIr 0 l;obtain⟨r1,r2,r3⟩:=zWU (ren_f l) 0 (kept 0 l);exact⟨r1 h1,r2.trans h2,r3 (zHw 0 l)⟩
def zRF {l:List InsP}{p:Int}(h:OpAt l p):OpAt (tidL l) (toP l p):=(map_at (ren_f l)).2 (toP_at h)
def zNT {l:List InsP}{y:InsP}(h:y∈tidL l):∃x∈l,y.2.1=x.2.1∧y.2.2=if 14≤x.2.1∧x.2.1≤18 then toP l x.2.2 else x.2.2:=by
 obtain⟨z,hz,rfl⟩:=List.mem_map.1 h;obtain⟨x,hx,e⟩:=zHO 0 l z hz;refine⟨x,hx,?_,?_⟩
 ·show z.2.1=_;rw[e]
 ·show(if 14≤z.2.1∧z.2.1≤18 then toP l z.2.2 else z.2.2)=_;rw[e]
def zJH {l:List InsP}(hg:∀ x∈l,zEQ x)(he:endO 0 l≤65535):∀y∈tidL l,zEQ y:=by
 intro y hy;have hg':=fun x hx=>(hg x hx).1
 obtain⟨x,hx,e1,e2⟩:=zNT hy;obtain⟨h0,h1,h2,h3,h4⟩:=hg x hx;have hr:=zVr hg' x.2.2;have hk:=(zGd 0 0 l hg').2;unfold zEQ;rw[e1,e2];by_cases hj:14≤x.2.1∧x.2.1≤18
 ·have ha:argN x.2.1=2:=by unfold argN;rw[if_neg (by omega),if_neg (by omega),if_pos (by omega)]
  rw[if_pos hj,ha];exact⟨by omega,fun h=>by omega,fun h=>by omega,fun _ h=>by omega,fun _ _=>by omega⟩
 ·rw[if_neg hj];exact⟨h0,h1,h2,h3,h4⟩
def zKE:∀(a:Int) (l:List InsP),zDr a l→zGk l→kept a l=l∧mapP a l=l.map (fun x=>(x.1,x.1))∧endK a l=endO a l
 |a,[],_,_=>⟨rfl,rfl,rfl⟩
 | a,x::l,hp,hn=>by
   have hc:¬(x.2.1=0∧l≠[]):=fun h=>h.2 (hn.1 h.1)
   obtain⟨h1,h2,h3⟩:=zKE _ l hp.2 hn.2;unfold kept mapP endK endO;rw[if_neg hc,if_neg hc,h1,h2,h3,zMc,←hp.1];exact⟨rfl,rfl,rfl⟩
def zSZ {l:List InsP}(hp:zDr 0 l)(hn:zGk l){p:Int}(h:OpAt l p∨p=endO 0 l):toP l p=p:=by
 obtain⟨h1,h2,h3⟩:=zKE 0 l hp hn;by_cases ho:OpAt l p
 ·obtain⟨q,hq,e1,e2⟩:=zFq ho;rw[h2]at hq;obtain⟨x,_,rfl⟩:=List.mem_map.1 hq;rw[e2];exact e1
 ·rw[zGv ho,h3];exact(h.resolve_left ho).symm
def zVx {l:List InsP}(hp:zDr 0 l)(hn:zGk l)(hj:∀ x∈l,14≤x.2.1∧x.2.1≤18→OpAt l x.2.2):tidL l=l:=by
 unfold tidL;rw[(zKE 0 l hp hn).1];refine(List.map_congr_left fun x hx=>?_).trans (List.map_id l);show ren l x=x;unfold ren;by_cases h:14≤x.2.1∧x.2.1≤18
 ·rw[if_pos h,zSZ hp hn (.inl (hj x hx h))]
 ·rw[if_neg h]
end
end Go.Stow
