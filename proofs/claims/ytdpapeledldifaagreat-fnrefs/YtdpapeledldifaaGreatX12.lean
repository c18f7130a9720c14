/- Part 13 of the proof that the law FnRefs holds of every input; no condition. -/
import Derived.Test.YtdpapeledldifaaGreatX11
set_option autoImplicit true
set_option relaxedAutoImplicit true
set_option linter.all false
section
namespace Go.TM
open Go.AM
section
variable {R:Type}{T:Nat→TI}{C:zPT R}{C':zAt}{o:Oper}{s:TS}{K:TS→Option R}{K':St→Prop}{r:R}
theorem zUJ {x:Operand}(ho:o.op = .nilCheck x)(hK:∀ s,K s=some r→K' (eS s))(h:tstep T C o s K=some r):zAh T C' o (eS s) K':=by
 simp only[tstep,ho]at h
 simp only[zAh,zAK,ho]
 rw[zAp]
 split at h
 ·rename_i hv;rw[hv];exact Kq hK (zAR _ (.p _ _ _)) h
 ·rename_i hv;rw[hv];exact Kq hK (zAR _ (.ro _)) h
 ·cases h
theorem zKj {op:BinOp}{x y:V}{K:V→Option R}{K':SV→Prop}(hb:∀ p q,¬ (x = .b p∧y = .b q))(h:binT op x y K=some r)(hK:∀ v,K v=some r→K' (e v)):binN op (e x) (e y) K':=by
 cases x<;>cases y<;>simp only[binT]at h<;>try cases h
 case b.b p q=>exact absurd ⟨rfl,rfl⟩ (hb p q)
 case i.i k a k' b =>
  simp only[e,binN]
  have hk:∀{A:Option R},chkO (eqK k k') A=some r→decide (k=k')=true∧A=some r:=fun h=>zAD h
  cases op with
  |add=>obtain⟨h1,h2⟩:=hk h;exact zAQ h1 (hK _ h2)
  |sub=>obtain⟨h1,h2⟩:=hk h;exact zAQ h1 (hK _ h2)
  |mul=>obtain⟨h1,h2⟩:=hk h;exact zAQ h1 (hK _ h2)
  |quo=>obtain⟨h1,h2⟩:=hk h;obtain⟨h3,h4⟩:=zAM h2;exact zAQ h1 ⟨by simpa using h3,hK _ h4⟩
  |rem=>obtain⟨h1,h2⟩:=hk h;obtain⟨h3,h4⟩:=zAM h2;exact zAQ h1 ⟨by simpa using h3,hK _ h4⟩
  |shl=>obtain⟨h3,h4⟩:=zAM h;exact⟨by simpa using h3,hK _ h4⟩
  |shr=>obtain⟨h3,h4⟩:=zAM h;exact⟨by simpa using h3,hK _ h4⟩
  |and=>simp only[bitI]at h ⊢;obtain⟨h1,h2⟩:=hk h;exact zAQ h1 (hK _ h2)
  |or=>simp only[bitI]at h ⊢;obtain⟨h1,h2⟩:=hk h;exact zAQ h1 (hK _ h2)
  |xor=>simp only[bitI]at h ⊢;obtain⟨h1,h2⟩:=hk h;exact zAQ h1 (hK _ h2)
  |eql=>simp only[cmpB]at h ⊢;obtain⟨h1,h2⟩:=hk h;exact zAQ h1 (hK _ h2)
  |neq=>simp only[cmpB]at h ⊢;obtain⟨h1,h2⟩:=hk h;exact zAQ h1 (hK _ h2)
  |lss=>simp only[cmpB]at h ⊢;obtain⟨h1,h2⟩:=hk h;exact zAQ h1 (hK _ h2)
  |leq=>simp only[cmpB]at h ⊢;obtain⟨h1,h2⟩:=hk h;exact zAQ h1 (hK _ h2)
  |gtr=>simp only[cmpB]at h ⊢;obtain⟨h1,h2⟩:=hk h;exact zAQ h1 (hK _ h2)
  |geq=>simp only[cmpB]at h ⊢;obtain⟨h1,h2⟩:=hk h;exact zAQ h1 (hK _ h2)
  |_=>simp only[cmpB]at h;cases h
 case s.s a b =>
  simp only[e,binN]
  cases op with
  |add=>obtain⟨h3,h4⟩:=zAM h;exact⟨by simpa using h3,hK _ h4⟩
  |eql=>exact hK _ h
  |neq=>exact hK _ h
  |lss=>exact hK _ h
  |leq=>exact hK _ h
  |gtr=>exact hK _ h
  |geq=>exact hK _ h
  |_=>simp only[strB]at h;cases h
theorem zPJ:∀(n:Nat) (fs:List (Nat×Nat)) (a b:List V) (q:Bool),eqFV T n fs a b=some q→eqFs T n fs (eL a) (eL b)=some q
 |_,[],[],[],q,h=>h
 |_,[],[],_::_,q,h=>by cases h
 |_,[],_::_,_,q,h=>by cases h
 |_,(_,_)::_,[],_,q,h=>by cases h
 |_,(_,_)::_,_::_,[],q,h=>by cases h
 | n,(t,o)::fs,x::l,y::m,q,h=>by
   simp only[eqFV]at h
   simp only[eL,eqFs]
   cases hn:o==n with
   |false=>rw[hn,cond_false]at h;cases h
   | true =>
     rw[hn,cond_true]at h
     rw[if_pos (eq_of_beq hn)]
     split at h
     ·rename_i k0 k a k' b q' hk hq
      rw[hk]
      simp only[e,zNI]
      rw[zPJ _ _ _ _ _ hq]
      cases hkk:eqK k k' with
      |false=>rw[hkk,cond_false]at h;cases h
      | true =>
        rw[hkk,cond_true]at h
        rw[if_pos (of_decide_eq_true hkk)]
        exact h
     ·rename_i a b q' hk hq
      rw[hk]
      simp only[e,zNI]
      rw[zPJ _ _ _ _ _ hq]
      exact h
     ·rename_i a b q' hk hq
      rw[hk]
      simp only[e,zNI]
      rw[zPJ _ _ _ _ _ hq]
      exact h
     ·cases h
theorem tbinOp {op:BinOp}{t ty:TypeId}{x y:Operand}(ho:o.op = .binOp op t x y ty)(hK:∀ s,K s=some r→K' (eS s))(h:tstep T C o s K=some r):zAh T C' o (eS s) K':=by
 simp only[tstep,ho]at h
 simp only[zAh,ho]
 rw[zAp,zAp]
 split at h
 ·rename_i a b hx hy
  rw[hx,hy]
  simp only[e,zAK,ho]
  rw[zAp,zAp,hx,hy]
  simp only[e]
  split at h
  ·rename_i fs hk
   rw[hk]
   simp only
   split at h
   ·rename_i q hq;rw[zPJ _ _ _ _ _ hq];exact Kq hK (zAR _ (.b _)) h
   ·rename_i q hq;rw[zPJ _ _ _ _ _ hq];exact Kq hK (zAR _ (.b _)) h
   ·cases h
  ·cases h
 ·rename_i g l hx hy
  rw[hx,hy]
  simp only[e,zAK,ho]
  rw[zAp,zAp,hx,hy]
  simp only[e]
  split at h
  ·rename_i t' hk
   rw[hk]
   simp only
   obtain⟨h1,h2⟩:=zAD h
   refine⟨h1,fun z hz=>?_⟩
   rcases zJj h2 with⟨h3,h4⟩|⟨h3,h4⟩
   ·obtain⟨h5,h6⟩:=zKg h4
    cases z
    ·exact Kq hK (zAR _ (.b _)) h6
    ·exact Kq hK (zAR _ (.b _)) h5
   ·simp only[decide_eq_false_iff_not]at h3
    have:z=false:=hz (by intro hl;rw[List.map_eq_nil_iff]at hl;rw[hl]at h3;exact h3 rfl)
    subst this
    exact Kq hK (zAR _ (.b _)) h4
  ·rename_i t' hk
   rw[hk]
   simp only
   obtain⟨h1,h2⟩:=zAD h
   obtain⟨h3,h4⟩:=zAM h2
   simp only[Bool.not_eq_true',decide_eq_false_iff_not]at h3
   refine⟨h1,fun z hz=>?_⟩
   have:z=true:=hz (by intro hl;rw[List.map_eq_nil_iff]at hl;rw[hl]at h3;exact h3 rfl)
   subst this
   exact Kq hK (zAR _ (.b _)) h4
  ·cases h
 ·rename_i p q hx hy
  rw[hx,hy]
  simp only[e,zAK,ho]
  rw[zAp,zAp,hx,hy]
  simp only[e]
  split at h
  ·rename_i hk;rw[hk];exact Kq hK (zAR _ (.b _)) h
  ·rename_i hk;rw[hk];exact Kq hK (zAR _ (.b _)) h
  ·cases h
 ·rename_i k a k' b hx hy
  rw[hx,hy]
  simp only[e]
  exact zKj (x:=.i k a) (y:=.i k' b) (fun _ _ hh=>by cases hh.1) h fun v hv=>Kq hK (zAR _ v) hv
 ·rename_i a b hx hy
  rw[hx,hy]
  simp only[e]
  exact zKj (x:=.s a) (y:=.s b) (fun _ _ hh=>by cases hh.1) h fun v hv=>Kq hK (zAR _ v) hv
 ·cases h
theorem tunOp {op:UnOp}{t:TypeId}{x:Operand}(ho:o.op = .unOp op t x)(hK:∀ s,K s=some r→K' (eS s))(h:tstep T C o s K=some r):zAh T C' o (eS s) K':=by
 simp only[tstep,ho]at h
 simp only[zAh,zAK,ho]
 rw[zAp]
 split at h
 ·rename_i hv;rw[hv];exact Kq hK (zAR _ (.b _)) h
 ·rename_i hv;rw[hv];exact Kq hK (zAR _ (.i _ _)) h
 ·cases h
theorem zEN {g g':GT}{l:List g'.Den}{K:List g.Den→Option R}(h:zQq l K=some r):∃hs:g.same g'=true,K (zEO hs l)=some r:=by
 unfold zQq at h
 split at h
 ·exact⟨_,h⟩
 ·cases h
theorem zGH:∀l:List UInt8,bytesOf (l.map (encC false .byte))=some l
 |[]=>rfl
 | c::l=>by
   have hc:UInt8.ofNat (((c:UInt8).toNat:Int)).toNat=c:=by simp
   have h1:AM.byteOf (encC false .byte c)=some c:=by
    show some (UInt8.ofNat (((c:UInt8).toNat:Int)).toNat)=some c
    rw[hc]
   have h2:=zGH l
   rw[List.map_cons]
   unfold bytesOf
   rw[h1,h2]
theorem tconvert {src dst:TypeId}{x:Operand}(ho:o.op = .convert src dst x)(hK:∀ s,K s=some r→K' (eS s))(h:tstep T C o s K=some r):zAh T C' o (eS s) K':=by
 simp only[tstep,ho]at h
 simp only[zAh,ho]
 rw[zAp]
 split at h
 ·rename_i k k' n hk hv
  rw[hk,hv]
  simp only[e]
  obtain⟨h1,h2⟩:=zAD h
  exact zAQ h1 (Kq hK (zAR _ (.i _ _)) h2)
 ·rename_i t l hk hv
  rw[hk,hv]
  simp only[e,zAK,ho]
  rw[zAp,hk,hv]
  simp only[e]
  split at h
  ·rename_i h1 h2
   rw[h1,h2]
   exact Kq hK (zAR _ (.sl .byte _)) h
  ·cases h
 ·rename_i l hk hv
  rw[hk,hv]
  simp only[e,zAK,ho]
  rw[zAp,hk,hv]
  simp only[e]
  split at h
  ·rename_i h1;rw[h1];exact Kq hK (zAR _ (.s _)) h
  ·cases h
 ·rename_i g l hk hv
  rw[hk,hv]
  simp only[e,zAK,ho]
  rw[zAp,hk,hv]
  simp only[e]
  split at h
  ·rename_i t h1
   rw[h1]
   simp only
   split at h
   ·rename_i h2
    rw[h2]
    obtain⟨hs,h3⟩:=zEN h
    have hm:=zBQ hs l false
    rw[←hm,zGH]
    exact Kq hK (zAR _ (.s _)) h3
   ·cases h
  ·cases h
 ·rename_i g d l hk hv
  rw[hk,hv]
  simp only[e,zAK,ho]
  rw[zAp,hk,hv]
  simp only[e]
  split at h
  ·rename_i t h1
   rw[h1]
   simp only
   split at h
   ·rename_i h2
    rw[h2]
    obtain⟨hs,h3⟩:=zEN h
    have hm:=zDK hs l (d:=false) (d':=d) (.inr rfl)
    rw[←hm,zGH]
    exact Kq hK (zAR _ (.s _)) h3
   ·cases h
  ·cases h
 ·cases h
theorem zVu:∀xs:List Operand,xs.map (AM.ev (eS s).env)=eL (evTL s xs)
 |[]=>rfl
 |x::l=>by simp only[List.map_cons,evTL,eL,zAp,zVu l]
theorem zUK {f:Fn}{first caps:Array Operand}(ho:o.op = .makeFunc f first caps)(hK:∀ s,K s=some r→K' (eS s))(h:tstep T C o s K=some r):zAh T C' o (eS s) K':=by
 simp only[tstep,ho]at h
 simp only[zAh,ho]
 split at h
 ·obtain⟨h1,h2⟩:=zAD h
  rw[zVu,zDT]
  exact zAQ h1 (Kq hK (zAR _ (.fn _ _)) h2)
 ·cases h
theorem zMx:∀(a b:List SV),tstep.eqSVs a b=true→a=b
 |[],[],_=>rfl
 |[],_::_,h=>by simp[tstep.eqSVs]at h
 |_::_,[],h=>by simp[tstep.eqSVs]at h
 | x::l,y::m,h=>by
   simp only[tstep.eqSVs,zBa]at h
   rw[zMx l m h.2]
   congr 1
   have h1:=h.1
   split at h1
   ·simp only[eqK,zBa,zDe]at h1;rw[h1.1,h1.2]
   ·rw[eq_of_beq h1]
   ·rfl
   ·rw[eq_of_beq h1]
   ·cases h1
theorem zSv {t:TypeId}{x y:Operand}(ho:o.op = .makeSlice t x y)(hK:∀ s,K s=some r→K' (eS s))(h:tstep T C o s K=some r):zAh T C' o (eS s) K':=by
 simp only[tstep,ho]at h
 simp only[zAh,zAK,ho]
 rw[zAp,zAp]
 split at h
 ·rename_i t' n m hk hx hy
  rw[hk,hx,hy]
  simp only[e]
  split at h
  ·rename_i g hg
   obtain⟨h1,h2⟩:=zAD h
   obtain⟨h3,h4⟩:=zAM h2
   simp only[zBa,zDe]at h1 h3
   refine⟨h1.1.1.1,h3.1.1.1,h3.1.1.2,h3.1.2,h3.2,Kq hK ?_ h4⟩
   have:=zAR (s:=s) o.dst (.own g true (List.replicate n.toNat g.dflt))
   simp only[e,List.map_replicate]at this
   rw[zMx _ _ h1.1.2,←eq_of_beq h1.2]
   exact this
  ·cases h
 ·cases h
theorem zDD (d:Int):∀x:Option Operand,zBs (eS s).env d x=zJN s d x
 |none=>rfl
 | some x=>by
   simp only[zBs,zJN,zAp]
   cases evT s x<;>rfl
theorem zMu (cs:List V)(n:Nat):eL (cs.drop n)=(eL cs).drop n:=by simp only[zPK,List.map_drop]
theorem zSy {t:TypeId}{x:Operand}{f:Nat}(ho:o.op = .fieldAddr t x f)(hK:∀ s,K s=some r→K' (eS s))(h:tstep T C o s K=some r):zAh T C' o (eS s) K':=by
 simp only[tstep,ho]at h
 simp only[zAh,ho]
 rw[zAp]
 split at h
 ·rename_i fs a i off hk hv
  rw[hk,hv]
  simp only[e]
  split at h
  ·rename_i ft fo hf
   rw[hf]
   obtain⟨h1,h2⟩:=zAD h
   exact zAQ h1 (Kq hK (zAR _ (.p _ _ _)) h2)
  ·cases h
 ·rename_i fs cs hk hv
  rw[hk,hv]
  simp only[e]
  split at h
  ·rename_i ft fo hf
   rw[hf]
   obtain⟨h1,h2⟩:=zAD h
   refine zAQ h1 (Kq hK ?_ h2)
   rw[←zMu]
   exact zAR _ (.ro _)
  ·cases h
 ·cases h
theorem tfield {t:TypeId}{x:Operand}{f:Nat}(ho:o.op = .field t x f)(hK:∀ s,K s=some r→K' (eS s))(h:tstep T C o s K=some r):zAh T C' o (eS s) K':=by
 simp only[tstep,ho]at h
 simp only[zAh,ho]
 rw[zAp]
 split at h
 ·rename_i fs cs hk hv
  rw[hk,hv]
  simp only[e]
  split at h
  ·rename_i ft fo hf
   rw[hf]
   obtain⟨h1,h2⟩:=zAD h
   simp only
   rw[zDT,zAO,←zCf,zIc]
   exact zAQ h1 (Kq hK (zAR _ _) h2)
  ·cases h
 ·cases h
theorem zKZ {g:GT}{l:List g.Den}{n:Int}{t:Nat}{d:Option Tmp}(ht:tyOk T t g=true)(hK:∀ s,K s=some r→K' (eS s))(h:idxT s d K g l n=some r):(0≤n∧n<(l.map (encC false g)).length)∧ixN T t (l.map (encC false g)) n.toNat d (eS s) K':=by
 obtain⟨h1,h2⟩:=zAM h
 have h1:=of_decide_eq_true h1
 obtain⟨x,hx,h3⟩:=zEo h2
 have hlt:=zCG hx
 refine⟨⟨h1,by rw[List.length_map];omega⟩,zPZ ht l,tyOk_gen ht fun row hr=>?_⟩
 rw[List.getElem?_map,hx]at hr
 simp only[Option.map_some,zSe]at hr
 subst hr
 rw[←zDr]
 exact Kq hK (zAR _ (.ro _)) h3
theorem zST:∀a b:List SV,frzL (a++b)=frzL a++frzL b
 |[],_=>rfl
 |x::l,b=>by simp only[List.cons_append,frzL,zST l b]
theorem zJX:∀l:List (List SV),zBb l=l.map frzL
 |[]=>rfl
 |x::l=>by simp only[zBb,List.map_cons,zJX l]
theorem zMq:∀(g:GT) (d:Bool) (x:g.Den),frzL (encC d g x)=encC false g x
 |.int _,_,_=>rfl
 |.byte,_,_=>rfl
 |.bool,_,_=>rfl
 |.str,_,_=>rfl
 | .sl g,d,l=>by
   cases d with
   |false=>rfl
   | true =>
     simp only[encC,frzL,frz,zJX,List.map_map]
     congr 2
     exact List.map_congr_left fun x _=>zMq g true x
 |.unit,_,_=>rfl
 |.pair a b,d,x=>by simp only[encC,zST,zMq a,zMq b]
theorem zBv (g:GT)(d:Bool)(l:List g.Den):zBb (l.map (encC d g))=l.map (encC false g):=by
 rw[zJX,List.map_map]
 exact List.map_congr_left fun x _=>zMq g d x
mutual
theorem frz_e:∀v:V,frz (e v)=e (frzV v)
 |.own g d l=>by simp only[e,frz,frzV,zBv]
 |.emp g=>rfl
 |.agg cs=>by simp only[e,frz,frzV,zQd cs]
 |.tup cs=>by simp only[e,frz,frzV,zQd cs]
 |.u|.sk|.i _ _|.b _|.s _|.sl _ _|.ar _|.p _ _ _|.ro _|.nilp|.nil|.fn _ _=>rfl
theorem zQd:∀l:List V,frzL (eL l)=eL (frzV.frzVL l)
 |[]=>rfl
 |x::l=>by simp only[eL,frzL,frzV.frzVL,frz_e x,zQd l]
end
theorem zVk (x:Operand):frzT (eS s) x=eS (zMr s x):=by
 cases x with
 | tmp t =>
   simp only[frzT,zMr]
   rw[zCe,zBK]
   cases zAz (zBn s t)
   ·rfl
   ·simp only[if_true];rw[frz_e,zCk]
 |_=>rfl
theorem zSw {t:TypeId}{x y:Operand}(ho:o.op = .indexAddr t x y)(hK:∀ s,K s=some r→K' (eS s))(h:tstep T C o s K=some r):zAh T C' o (eS s) K':=by
 simp only[tstep,ho]at h
 simp only[zAh,ho]
 rw[zAp,zAp]
 split at h
 ·rename_i t' g l k n hk hx hy
  rw[hk,hx,hy]
  simp only[e]
  obtain⟨h1,h2⟩:=zAD h
  simp only[zBa]at h1
  exact zAQ (by rw[h1.1,(zEx h1.2).2];simp) (zKZ h1.2 hK h2)
 ·rename_i t' g d l k n hk hx hy
  rw[hk,hx,hy]
  simp only[e]
  obtain⟨h1,h2⟩:=zAD h
  simp only[zBa]at h1
  refine zAQ (by rw[h1.1,(zEx h1.2).2];simp) ?_
  rw[zBv,zVk,List.length_map]
  have:=zKZ h1.2 hK h2
  rw[List.length_map]at this
  exact this
 ·rename_i t' a k n hk hx hy
  rw[hk,hx,hy]
  simp only[e]
  split at h
  ·rename_i m g d l hg
   rw[zBO hg]
   obtain⟨h1,h2⟩:=zAD h
   obtain⟨h3,h4⟩:=zAM h2
   simp only[zBa,zDe]at h3
   refine zAQ h1 ⟨⟨h3.1,by simp only[List.length_map];exact h3.2⟩,Kq hK (zAR _ (.p _ _ _)) h4⟩
  ·rename_i m g d l j cs hg
   rw[zBF hg]
   obtain⟨h1,h2⟩:=zAD h
   obtain⟨h3,h4⟩:=zAM h2
   simp only[zBa,zDe]at h3
   refine zAQ h1 ⟨⟨h3.1,by simp only[List.length_set,zDX];exact h3.2⟩,Kq hK (zAR _ (.p _ _ _)) h4⟩
  ·rename_i m g l k hg
   rw[zGo hg]
   obtain⟨h1,h2⟩:=zAD h
   obtain⟨h3,h4⟩:=zAM h2
   simp only[zBa,zDe]at h3
   refine zAQ h1 ⟨⟨h3.1,by simp only[zDX];exact h3.2⟩,Kq hK (zAR _ (.p _ _ _)) h4⟩
  ·cases h
 ·cases h
theorem tindex {t:TypeId}{x y:Operand}(ho:o.op = .index t x y)(hK:∀ s,K s=some r→K' (eS s))(h:tstep T C o s K=some r):zAh T C' o (eS s) K':=by
 simp only[tstep,ho]at h
 simp only[zAh,zAK,ho]
 rw[zAp,zAp]
 split at h
 ·rename_i l k n hk hx hy
  rw[hk,hx,hy]
  simp only[e]
  obtain⟨h1,h2⟩:=zAM h
  have h1:=of_decide_eq_true h1
  obtain⟨c,hc,h3⟩:=zEo h2
  have hlt:=zCG hc
  refine⟨⟨h1,by omega⟩,fun c' hc'=>?_⟩
  rw[hc]at hc'
  simp only[zSe]at hc'
  subst hc'
  exact Kq hK (zAR _ (.i _ _)) h3
 ·cases h
theorem textract {x:Operand}{j:Nat}(ho:o.op = .extract x j)(hK:∀ s,K s=some r→K' (eS s))(h:tstep T C o s K=some r):zAh T C' o (eS s) K':=by
 simp only[tstep,ho]at h
 simp only[zAh,ho]
 split at h
 ·rename_i t
  simp only
  rw[zCe]
  split at h
  ·rename_i vs hv
   rw[hv]
   simp only[e]
   obtain⟨h1,h2⟩:=zAD h
   rw[zAO,←zGs,zBK]
   refine zAQ h1 ?_
   revert h2
   cases zAz (lkV vs j)
   ·intro h2;exact Kq hK (zAR _ _) h2
   ·intro h2
    refine Kq hK ?_ h2
    simp only
    rw[show SV.tup (upd (eL vs) j .u)=e (.tup (updV vs j .u))by simp only[e,zQk],zCk,zAR]
  ·cases h
 ·cases h
end
end Go.TM
end
