/- Part 13 of the proof of FnTidy; no condition. -/
import Derived.Test.YtdpapeledldifaaGreatX11
set_option autoImplicit true
set_option relaxedAutoImplicit true
set_option linter.all false
section
namespace Go.TM
open Go.AM
section
variable {R:Type}{T:Nat→TI}{C:zQl R}{C':zAx}{o:Oper}{s:TS}{K:TS→Option R}{K':St→Prop}{r:R}
def zVu {x:Operand}(ho:o.op = .nilCheck x)(hK:∀ s,K s=some r→K' (eS s))(h:tstep T C o s K=some r):zAi T C' o (eS s) K':=by
 simp only[tstep,ho]at h;simp only[zAi,zAL,ho]
 rw[zAr];split at h
 ·rename_i hv;rw[hv];exact Kq hK (zAR _ (.p _ _ _)) h
 ·rename_i hv;rw[hv];exact Kq hK (zAR _ (.ro _)) h
 ·cases h
def zLZ {op:BinOp}{x y:V}{K:V→Option R}{K':SV→Prop}(hb:∀ p q,¬ (x = .b p∧y = .b q))(h:binT op x y K=some r)(hK:∀ v,K v=some r→K' (e v)):binN op (e x) (e y) K':=by
 cases x<;>cases y<;>simp only[binT]at h<;>try cases h
 case b.b p q=>exact absurd ⟨rfl,rfl⟩ (hb p q)
 case i.i k a k' b=>
  simp only[e,binN]
  have hk:∀{A:Option R},chkO (eqK k k') A=some r→decide (k=k')=true∧A=some r:=fun h=>zAF h
  cases op with
  |add=>obtain⟨h1,h2⟩:=hk h;exact zAQ h1 (hK _ h2)
  |sub=>obtain⟨h1,h2⟩:=hk h;exact zAQ h1 (hK _ h2)
  |mul=>obtain⟨h1,h2⟩:=hk h;exact zAQ h1 (hK _ h2)
  |quo=>obtain⟨h1,h2⟩:=hk h;obtain⟨h3,h4⟩:=zAP h2;exact zAQ h1 ⟨by simpa using h3,hK _ h4⟩
  |rem=>obtain⟨h1,h2⟩:=hk h;obtain⟨h3,h4⟩:=zAP h2;exact zAQ h1 ⟨by simpa using h3,hK _ h4⟩
  |shl=>obtain⟨h3,h4⟩:=zAP h;exact⟨by simpa using h3,hK _ h4⟩
  |shr=>obtain⟨h3,h4⟩:=zAP h;exact⟨by simpa using h3,hK _ h4⟩
  |and=>simp only[bitI]at h ⊢;obtain⟨h1,h2⟩:=hk h;exact zAQ h1 (hK _ h2)
  |or=>simp only[bitI]at h ⊢;obtain⟨h1,h2⟩:=hk h;exact zAQ h1 (hK _ h2)
  |xor=>simp only[bitI]at h ⊢;obtain⟨h1,h2⟩:=hk h;exact zAQ h1 (hK _ h2)
  |eql=>simp only[cmpB]at h ⊢;obtain⟨h1,h2⟩:=hk h;exact zAQ h1 (hK _ h2)
  |neq=>simp only[cmpB]at h ⊢;obtain⟨h1,h2⟩:=hk h;exact zAQ h1 (hK _ h2)
  |lss=>simp only[cmpB]at h ⊢;obtain⟨h1,h2⟩:=hk h;exact zAQ h1 (hK _ h2)
  |leq=>simp only[cmpB]at h ⊢;obtain⟨h1,h2⟩:=hk h;exact zAQ h1 (hK _ h2)
  |gtr=>simp only[cmpB]at h ⊢;obtain⟨h1,h2⟩:=hk h;exact zAQ h1 (hK _ h2)
  |geq=>simp only[cmpB]at h ⊢;obtain⟨h1,h2⟩:=hk h;exact zAQ h1 (hK _ h2)
  |_=>simp only[cmpB]at h;cases h
 case s.s a b=>
  simp only[e,binN]
  cases op with
  |add=>obtain⟨h3,h4⟩:=zAP h;exact⟨by simpa using h3,hK _ h4⟩
  |eql=>exact hK _ h
  |neq=>exact hK _ h
  |lss=>exact hK _ h
  |leq=>exact hK _ h
  |gtr=>exact hK _ h
  |geq=>exact hK _ h
  |_=>simp only[strB]at h;cases h
def zQc:∀(n:Nat) (fs:List (Nat×Nat)) (a b:List V) (q:Bool),eqFV T n fs a b=some q→eqFs T n fs (eL a) (eL b)=some q
 |_,[],[],[],q,h=>h
 |_,[],[],_::_,q,h=>by cases h
 |_,[],_::_,_,q,h=>by cases h
 |_,(_,_)::_,[],_,q,h=>by cases h
 |_,(_,_)::_,_::_,[],q,h=>by cases h
 | n,(t,o)::fs,x::l,y::m,q,h=>by
   simp only[eqFV]at h;simp only[eL,eqFs]
   cases hn:o==n with
   |false=>rw[hn,cond_false]at h;cases h
   | true=>
     rw[hn,cond_true]at h;rw[if_pos (eq_of_beq hn)];split at h
     ·rename_i k0 k a k' b q' hk hq;rw[hk];simp only[e,zOY]
      rw[zQc _ _ _ _ _ hq];cases hkk:eqK k k' with
      |false=>rw[hkk,cond_false]at h;cases h
      | true=>
        rw[hkk,cond_true]at h;rw[if_pos (of_decide_eq_true hkk)];exact h
     ·rename_i a b q' hk hq;rw[hk];simp only[e,zOY]
      rw[zQc _ _ _ _ _ hq];exact h
     ·rename_i a b q' hk hq;rw[hk];simp only[e,zOY]
      rw[zQc _ _ _ _ _ hq];exact h
     ·cases h
def tbinOp {op:BinOp}{t ty:TypeId}{x y:Operand}(ho:o.op = .binOp op t x y ty)(hK:∀ s,K s=some r→K' (eS s))(h:tstep T C o s K=some r):zAi T C' o (eS s) K':=by
 simp only[tstep,ho]at h;simp only[zAi,ho]
 rw[zAr,zAr];split at h
 ·rename_i a b hx hy;rw[hx,hy];simp only[e,zAL,ho]
  rw[zAr,zAr,hx,hy];simp only[e]
  split at h
  ·rename_i fs hk;rw[hk];simp only
   split at h
   ·rename_i q hq;rw[zQc _ _ _ _ _ hq];exact Kq hK (zAR _ (.b _)) h
   ·rename_i q hq;rw[zQc _ _ _ _ _ hq];exact Kq hK (zAR _ (.b _)) h
   ·cases h
  ·cases h
 ·rename_i g l hx hy;rw[hx,hy];simp only[e,zAL,ho]
  rw[zAr,zAr,hx,hy];simp only[e]
  split at h
  ·rename_i t' hk;rw[hk];simp only
   obtain⟨h1,h2⟩:=zAF h;refine⟨h1,fun z hz=>?_⟩;rcases zKU h2 with⟨h3,h4⟩|⟨h3,h4⟩
   ·obtain⟨h5,h6⟩:=zLW h4;cases z
    ·exact Kq hK (zAR _ (.b _)) h6
    ·exact Kq hK (zAR _ (.b _)) h5
   ·simp only[zDn]at h3;have:z=false:=hz (by intro hl;rw[List.map_eq_nil_iff]at hl;rw[hl]at h3;exact h3 rfl);subst this;exact Kq hK (zAR _ (.b _)) h4
  ·rename_i t' hk;rw[hk];simp only
   obtain⟨h1,h2⟩:=zAF h;obtain⟨h3,h4⟩:=zAP h2;simp only[Bool.not_eq_true',zDn]at h3;refine⟨h1,fun z hz=>?_⟩;have:z=true:=hz (by intro hl;rw[List.map_eq_nil_iff]at hl;rw[hl]at h3;exact h3 rfl);subst this;exact Kq hK (zAR _ (.b _)) h4
  ·cases h
 ·rename_i p q hx hy;rw[hx,hy];simp only[e,zAL,ho]
  rw[zAr,zAr,hx,hy];simp only[e]
  split at h
  ·rename_i hk;rw[hk];exact Kq hK (zAR _ (.b _)) h
  ·rename_i hk;rw[hk];exact Kq hK (zAR _ (.b _)) h
  ·cases h
 ·rename_i k a k' b hx hy;rw[hx,hy];simp only[e]
  exact zLZ (x:=.i k a) (y:=.i k' b) (fun _ _ hh=>by cases hh.1) h fun v hv=>Kq hK (zAR _ v) hv
 ·rename_i a b hx hy;rw[hx,hy];simp only[e]
  exact zLZ (x:=.s a) (y:=.s b) (fun _ _ hh=>by cases hh.1) h fun v hv=>Kq hK (zAR _ v) hv
 ·cases h
def tunOp {op:UnOp}{t:TypeId}{x:Operand}(ho:o.op = .unOp op t x)(hK:∀ s,K s=some r→K' (eS s))(h:tstep T C o s K=some r):zAi T C' o (eS s) K':=by
 simp only[tstep,ho]at h;simp only[zAi,zAL,ho]
 rw[zAr];split at h
 ·rename_i hv;rw[hv];exact Kq hK (zAR _ (.b _)) h
 ·rename_i hv;rw[hv];exact Kq hK (zAR _ (.i _ _)) h
 ·cases h
def zEi {g g':GT}{l:List g'.Den}{K:List g.Den→Option R}(h:zSD l K=some r):∃hs:g.same g'=true,K (zEj hs l)=some r:=by
 unfold zSD at h;split at h
 ·exact⟨_,h⟩
 ·cases h
def zGh:∀l:List UInt8,bytesOf (l.map (encC false .byte))=some l
 |[]=>rfl
 | c::l=>by
   have hc:UInt8.ofNat (((c:UInt8).toNat:Int)).toNat=c:=by simp
   have h1:AM.byteOf (encC false .byte c)=some c:=by
    show some (UInt8.ofNat (((c:UInt8).toNat:Int)).toNat)=some c;rw[hc]
   have h2:=zGh l;rw[zMc];unfold bytesOf;rw[h1,h2]
def tconvert {src dst:TypeId}{x:Operand}(ho:o.op = .convert src dst x)(hK:∀ s,K s=some r→K' (eS s))(h:tstep T C o s K=some r):zAi T C' o (eS s) K':=by
 simp only[tstep,ho]at h;simp only[zAi,ho]
 rw[zAr];split at h
 ·rename_i k k' n hk hv;rw[hk,hv];simp only[e]
  obtain⟨h1,h2⟩:=zAF h;exact zAQ h1 (Kq hK (zAR _ (.i _ _)) h2)
 ·rename_i t l hk hv;rw[hk,hv];simp only[e,zAL,ho]
  rw[zAr,hk,hv];simp only[e]
  split at h
  ·rename_i h1 h2;rw[h1,h2];exact Kq hK (zAR _ (.sl .byte _)) h
  ·cases h
 ·rename_i l hk hv;rw[hk,hv];simp only[e,zAL,ho]
  rw[zAr,hk,hv];simp only[e]
  split at h
  ·rename_i h1;rw[h1];exact Kq hK (zAR _ (.s _)) h
  ·cases h
 ·rename_i g l hk hv;rw[hk,hv];simp only[e,zAL,ho]
  rw[zAr,hk,hv];simp only[e]
  split at h
  ·rename_i t h1;rw[h1];simp only
   split at h
   ·rename_i h2;rw[h2];obtain⟨hs,h3⟩:=zEi h;have hm:=zBV hs l false;rw[←hm,zGh];exact Kq hK (zAR _ (.s _)) h3
   ·cases h
  ·cases h
 ·rename_i g d l hk hv;rw[hk,hv];simp only[e,zAL,ho]
  rw[zAr,hk,hv];simp only[e]
  split at h
  ·rename_i t h1;rw[h1];simp only
   split at h
   ·rename_i h2;rw[h2];obtain⟨hs,h3⟩:=zEi h;have hm:=zDV hs l (d:=false) (d':=d) (.inr rfl);rw[←hm,zGh];exact Kq hK (zAR _ (.s _)) h3
   ·cases h
  ·cases h
 ·cases h
def zXc:∀xs:List Operand,xs.map (AM.ev (eS s).env)=eL (evTL s xs)
 |[]=>rfl
 |x::l=>by simp only[zMc,evTL,eL,zAr,zXc l]
def zVv {f:Fn}{first caps:Array Operand}(ho:o.op = .makeFunc f first caps)(hK:∀ s,K s=some r→K' (eS s))(h:tstep T C o s K=some r):zAi T C' o (eS s) K':=by
 simp only[tstep,ho]at h;simp only[zAi,ho]
 split at h
 ·obtain⟨h1,h2⟩:=zAF h;rw[zXc,zDh];exact zAQ h1 (Kq hK (zAR _ (.fn _ _)) h2)
 ·cases h
def zON:∀(a b:List SV),tstep.eqSVs a b=true→a=b
 |[],[],_=>rfl
 |[],_::_,h=>by simp[tstep.eqSVs]at h
 |_::_,[],h=>by simp[tstep.eqSVs]at h
 | x::l,y::m,h=>by
   simp only[tstep.eqSVs,zBa]at h;rw[zON l m h.2];congr 1;have h1:=h.1;split at h1
   ·simp only[eqK,zBa,zDe]at h1;rw[h1.1,h1.2]
   ·rw[eq_of_beq h1]
   ·rfl
   ·rw[eq_of_beq h1]
   ·cases h1
def zUU {t:TypeId}{x y:Operand}(ho:o.op = .makeSlice t x y)(hK:∀ s,K s=some r→K' (eS s))(h:tstep T C o s K=some r):zAi T C' o (eS s) K':=by
 simp only[tstep,ho]at h;simp only[zAi,zAL,ho]
 rw[zAr,zAr];split at h
 ·rename_i t' n m hk hx hy;rw[hk,hx,hy];simp only[e]
  split at h
  ·rename_i g hg;obtain⟨h1,h2⟩:=zAF h;obtain⟨h3,h4⟩:=zAP h2;simp only[zBa,zDe]at h1 h3;refine⟨h1.1.1.1,h3.1.1.1,h3.1.1.2,h3.1.2,h3.2,Kq hK ?_ h4⟩;have:=zAR (s:=s) o.dst (.own g true (List.replicate n.toNat g.dflt));simp only[e,List.map_replicate]at this;rw[zON _ _ h1.1.2,←eq_of_beq h1.2];exact this
  ·cases h
 ·cases h
def zDN (d:Int):∀x:Option Operand,zCD (eS s).env d x=zJu s d x
 |none=>rfl
 | some x=>by
   simp only[zCD,zJu,zAr]
   cases evT s x<;>rfl
def zOK (cs:List V)(n:Nat):eL (cs.drop n)=(eL cs).drop n:=by simp only[zQd,List.map_drop]
def zUX {t:TypeId}{x:Operand}{f:Nat}(ho:o.op = .fieldAddr t x f)(hK:∀ s,K s=some r→K' (eS s))(h:tstep T C o s K=some r):zAi T C' o (eS s) K':=by
 simp only[tstep,ho]at h;simp only[zAi,ho]
 rw[zAr];split at h
 ·rename_i fs a i off hk hv;rw[hk,hv];simp only[e]
  split at h
  ·rename_i ft fo hf;rw[hf];obtain⟨h1,h2⟩:=zAF h;exact zAQ h1 (Kq hK (zAR _ (.p _ _ _)) h2)
  ·cases h
 ·rename_i fs cs hk hv;rw[hk,hv];simp only[e]
  split at h
  ·rename_i ft fo hf;rw[hf];obtain⟨h1,h2⟩:=zAF h;refine zAQ h1 (Kq hK ?_ h2);rw[←zOK];exact zAR _ (.ro _)
  ·cases h
 ·cases h
def tfield {t:TypeId}{x:Operand}{f:Nat}(ho:o.op = .field t x f)(hK:∀ s,K s=some r→K' (eS s))(h:tstep T C o s K=some r):zAi T C' o (eS s) K':=by
 simp only[tstep,ho]at h;simp only[zAi,ho]
 rw[zAr];split at h
 ·rename_i fs cs hk hv;rw[hk,hv];simp only[e]
  split at h
  ·rename_i ft fo hf;rw[hf];obtain⟨h1,h2⟩:=zAF h;simp only
   rw[zDh,zAN,←zCq,zJC];exact zAQ h1 (Kq hK (zAR _ _) h2)
  ·cases h
 ·cases h
def zLP {g:GT}{l:List g.Den}{n:Int}{t:Nat}{d:Option Tmp}(ht:tyOk T t g=true)(hK:∀ s,K s=some r→K' (eS s))(h:idxT s d K g l n=some r):(0≤n∧n<(l.map (encC false g)).length)∧ixN T t (l.map (encC false g)) n.toNat d (eS s) K':=by
 obtain⟨h1,h2⟩:=zAP h;have h1:=of_decide_eq_true h1;obtain⟨x,hx,h3⟩:=zFI h2;have hlt:=zCP hx;refine⟨⟨h1,by rw[zLm];omega⟩,zQp ht l,tyOk_gen ht fun row hr=>?_⟩;rw[List.getElem?_map,hx]at hr;simp only[Option.map_some,zSe]at hr;subst hr;rw[←zEG];exact Kq hK (zAR _ (.ro _)) h3
def zTp:∀a b:List SV,frzL (a++b)=frzL a++frzL b
 |[],_=>rfl
 |x::l,b=>by simp only[zCa,frzL,zTp l b]
def zKJ:∀l:List (List SV),zBX l=l.map frzL
 |[]=>rfl
 |x::l=>by simp only[zBX,zMc,zKJ l]
def zOF:∀(g:GT) (d:Bool) (x:g.Den),frzL (encC d g x)=encC false g x
 |.int _,_,_=>rfl
 |.byte,_,_=>rfl
 |.bool,_,_=>rfl
 |.str,_,_=>rfl
 | .sl g,d,l=>by
   cases d with
   |false=>rfl
   | true=>
     simp only[encC,frzL,frz,zKJ,List.map_map]
     congr 2;exact List.map_congr_left fun x _=>zOF g true x
 |.unit,_,_=>rfl
 |.pair a b,d,x=>by simp only[encC,zTp,zOF a,zOF b]
def zBp (g:GT)(d:Bool)(l:List g.Den):zBX (l.map (encC d g))=l.map (encC false g):=by
 rw[zKJ,List.map_map];exact List.map_congr_left fun x _=>zOF g d x
mutual
def frz_e:∀v:V,frz (e v)=e (frzV v)
 |.own g d l=>by simp only[e,frz,frzV,zBp]
 |.emp g=>rfl
 |.agg cs=>by simp only[e,frz,frzV,zRq cs]
 |.tup cs=>by simp only[e,frz,frzV,zRq cs]
 |.u|.sk|.i _ _|.b _|.s _|.sl _ _|.ar _|.p _ _ _|.ro _|.nilp|.nil|.fn _ _=>rfl
def zRq:∀l:List V,frzL (eL l)=eL (frzV.frzVL l)
 |[]=>rfl
 |x::l=>by simp only[eL,frzL,frzV.frzVL,frz_e x,zRq l]
end
def zXQ (x:Operand):frzT (eS s) x=eS (zOG s x):=by
 cases x with
 | tmp t=>
   simp only[frzT,zOG]
   rw[zCp,zBR];cases zBG (zBx s t)
   ·rfl
   ·simp only[if_true];rw[frz_e,zCv]
 |_=>rfl
def zUV {t:TypeId}{x y:Operand}(ho:o.op = .indexAddr t x y)(hK:∀ s,K s=some r→K' (eS s))(h:tstep T C o s K=some r):zAi T C' o (eS s) K':=by
 simp only[tstep,ho]at h;simp only[zAi,ho]
 rw[zAr,zAr];split at h
 ·rename_i t' g l k n hk hx hy;rw[hk,hx,hy];simp only[e]
  obtain⟨h1,h2⟩:=zAF h;simp only[zBa]at h1;exact zAQ (by rw[h1.1,(zFS h1.2).2];simp) (zLP h1.2 hK h2)
 ·rename_i t' g d l k n hk hx hy;rw[hk,hx,hy];simp only[e]
  obtain⟨h1,h2⟩:=zAF h;simp only[zBa]at h1;refine zAQ (by rw[h1.1,(zFS h1.2).2];simp) ?_;rw[zBp,zXQ,zLm];have:=zLP h1.2 hK h2;rw[zLm]at this;exact this
 ·rename_i t' a k n hk hx hy;rw[hk,hx,hy];simp only[e]
  split at h
  ·rename_i m g d l hg;rw[zBP hg];obtain⟨h1,h2⟩:=zAF h;obtain⟨h3,h4⟩:=zAP h2;simp only[zBa,zDe]at h3;refine zAQ h1 ⟨⟨h3.1,by simp only[zLm];exact h3.2⟩,Kq hK (zAR _ (.p _ _ _)) h4⟩
  ·rename_i m g d l j cs hg;rw[zBM hg];obtain⟨h1,h2⟩:=zAF h;obtain⟨h3,h4⟩:=zAP h2;simp only[zBa,zDe]at h3;refine zAQ h1 ⟨⟨h3.1,by simp only[List.length_set,zDl];exact h3.2⟩,Kq hK (zAR _ (.p _ _ _)) h4⟩
  ·rename_i m g l k hg;rw[zHP hg];obtain⟨h1,h2⟩:=zAF h;obtain⟨h3,h4⟩:=zAP h2;simp only[zBa,zDe]at h3;refine zAQ h1 ⟨⟨h3.1,by simp only[zDl];exact h3.2⟩,Kq hK (zAR _ (.p _ _ _)) h4⟩
  ·cases h
 ·cases h
def tindex {t:TypeId}{x y:Operand}(ho:o.op = .index t x y)(hK:∀ s,K s=some r→K' (eS s))(h:tstep T C o s K=some r):zAi T C' o (eS s) K':=by
 simp only[tstep,ho]at h;simp only[zAi,zAL,ho]
 rw[zAr,zAr];split at h
 ·rename_i l k n hk hx hy;rw[hk,hx,hy];simp only[e]
  obtain⟨h1,h2⟩:=zAP h;have h1:=of_decide_eq_true h1;obtain⟨c,hc,h3⟩:=zFI h2;have hlt:=zCP hc;refine⟨⟨h1,by omega⟩,fun c' hc'=>?_⟩;rw[hc]at hc';simp only[zSe]at hc';subst hc';exact Kq hK (zAR _ (.i _ _)) h3
 ·cases h
def textract {x:Operand}{j:Nat}(ho:o.op = .extract x j)(hK:∀ s,K s=some r→K' (eS s))(h:tstep T C o s K=some r):zAi T C' o (eS s) K':=by
 simp only[tstep,ho]at h;simp only[zAi,ho]
 split at h
 ·rename_i t;simp only
  rw[zCp];split at h
  ·rename_i vs hv;rw[hv];simp only[e]
   obtain⟨h1,h2⟩:=zAF h;rw[zAN,←zHU,zBR];refine zAQ h1 ?_;revert h2;cases zBG (lkV vs j)
   ·intro h2;exact Kq hK (zAR _ _) h2
   ·intro h2;refine Kq hK ?_ h2;simp only
    rw[show SV.tup (upd (eL vs) j .u)=e (.tup (updV vs j .u))by simp only[e,zRz],zCv,zAR]
  ·cases h
 ·cases h
end
end Go.TM
end
