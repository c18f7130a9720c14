/- Part 13 of the proof that the law FnCheck holds of every input; no condition. -/
import Derived.Test.YtdpapeledldifaaGreatX11
set_option autoImplicit true
set_option relaxedAutoImplicit true
set_option linter.all false
section
namespace Go.TM
open Go.AM
section
variable {R:Type} {T:Nat→TI} {C:zQN R} {C':zAr} {o:Oper} {s:TS} {K:TS→Option R} {K':St→Prop} {r:R}
theorem zUN {x:Operand} (ho:o.op = .nilCheck x) (hK:∀ s,K s=some r→K' (eS s)) (h:tstep T C o s K=some r):zAf T C' o (eS s) K':=by
 simp only [tstep,ho] at h
 simp only [zAf,zAI,ho]
 rw [zAn]
 split at h
 ·rename_i hv;rw [hv];exact Kq hK (zAR _ (.p _ _ _)) h
 ·rename_i hv;rw [hv];exact Kq hK (zAR _ (.ro _)) h
 ·cases h
theorem zJO {op:BinOp} {x y:V} {K:V→Option R} {K':SV→Prop} (hb:∀ p q,¬ (x = .b p∧y = .b q)) (h:binT op x y K=some r) (hK:∀ v,K v=some r→K' (e v)):binN op (e x) (e y) K':=by
 cases x <;> cases y <;> simp only [binT] at h <;> try cases h
 case b.b p q=>exact absurd ⟨rfl,rfl⟩ (hb p q)
 case i.i k a k' b =>
  simp only [e,binN]
  have hk:∀ {A:Option R},chkO (eqK k k') A=some r→decide (k=k')=true∧A=some r:=fun h=>zAD h
  cases op with
  | add=>obtain ⟨h1,h2⟩:=hk h;exact zAQ h1 (hK _ h2)
  | sub=>obtain ⟨h1,h2⟩:=hk h;exact zAQ h1 (hK _ h2)
  | mul=>obtain ⟨h1,h2⟩:=hk h;exact zAQ h1 (hK _ h2)
  | quo=>obtain ⟨h1,h2⟩:=hk h;obtain ⟨h3,h4⟩:=zAP h2;exact zAQ h1 ⟨by simpa using h3,hK _ h4⟩
  | rem=>obtain ⟨h1,h2⟩:=hk h;obtain ⟨h3,h4⟩:=zAP h2;exact zAQ h1 ⟨by simpa using h3,hK _ h4⟩
  | shl=>obtain ⟨h3,h4⟩:=zAP h;exact ⟨by simpa using h3,hK _ h4⟩
  | shr=>obtain ⟨h3,h4⟩:=zAP h;exact ⟨by simpa using h3,hK _ h4⟩
  | and=>simp only [bitI] at h ⊢;obtain ⟨h1,h2⟩:=hk h;exact zAQ h1 (hK _ h2)
  | or=>simp only [bitI] at h ⊢;obtain ⟨h1,h2⟩:=hk h;exact zAQ h1 (hK _ h2)
  | xor=>simp only [bitI] at h ⊢;obtain ⟨h1,h2⟩:=hk h;exact zAQ h1 (hK _ h2)
  | eql=>simp only [cmpB] at h ⊢;obtain ⟨h1,h2⟩:=hk h;exact zAQ h1 (hK _ h2)
  | neq=>simp only [cmpB] at h ⊢;obtain ⟨h1,h2⟩:=hk h;exact zAQ h1 (hK _ h2)
  | lss=>simp only [cmpB] at h ⊢;obtain ⟨h1,h2⟩:=hk h;exact zAQ h1 (hK _ h2)
  | leq=>simp only [cmpB] at h ⊢;obtain ⟨h1,h2⟩:=hk h;exact zAQ h1 (hK _ h2)
  | gtr=>simp only [cmpB] at h ⊢;obtain ⟨h1,h2⟩:=hk h;exact zAQ h1 (hK _ h2)
  | geq=>simp only [cmpB] at h ⊢;obtain ⟨h1,h2⟩:=hk h;exact zAQ h1 (hK _ h2)
  | _=>simp only [cmpB] at h;cases h
 case s.s a b =>
  simp only [e,binN]
  cases op with
  | add=>obtain ⟨h3,h4⟩:=zAP h;exact ⟨by simpa using h3,hK _ h4⟩
  | eql=>exact hK _ h
  | neq=>exact hK _ h
  | lss=>exact hK _ h
  | leq=>exact hK _ h
  | gtr=>exact hK _ h
  | geq=>exact hK _ h
  | _=>simp only [strB] at h;cases h
theorem zQB:∀ (n:Nat) (fs:List (Nat×Nat)) (a b:List V) (q:Bool),eqFV T n fs a b=some q→eqFs T n fs (eL a) (eL b)=some q
 | _,[],[],[],q,h=>h
 | _,[],[],_ :: _,q,h=>by cases h
 | _,[],_ :: _,_,q,h=>by cases h
 | _,(_,_) :: _,[],_,q,h=>by cases h
 | _,(_,_) :: _,_ :: _,[],q,h=>by cases h
 | n,(t,o) :: fs,x :: l,y :: m,q,h=>by
   simp only [eqFV] at h
   simp only [eL,eqFs]
   cases hn:o == n with
   | false=>rw [hn,cond_false] at h;cases h
   | true =>
     rw [hn,cond_true] at h
     rw [if_pos (eq_of_beq hn)]
     split at h
     ·rename_i k0 k a k' b q' hk hq
      rw [hk]
      simp only [e,zNH]
      rw [zQB _ _ _ _ _ hq]
      cases hkk:eqK k k' with
      | false=>rw [hkk,cond_false] at h;cases h
      | true =>
        rw [hkk,cond_true] at h
        rw [if_pos (of_decide_eq_true hkk)]
        exact h
     ·rename_i a b q' hk hq
      rw [hk]
      simp only [e,zNH]
      rw [zQB _ _ _ _ _ hq]
      exact h
     ·rename_i a b q' hk hq
      rw [hk]
      simp only [e,zNH]
      rw [zQB _ _ _ _ _ hq]
      exact h
     ·cases h
theorem tbinOp {op:BinOp} {t ty:TypeId} {x y:Operand} (ho:o.op = .binOp op t x y ty) (hK:∀ s,K s=some r→K' (eS s)) (h:tstep T C o s K=some r):zAf T C' o (eS s) K':=by
 simp only [tstep,ho] at h
 simp only [zAf,ho]
 rw [zAn,zAn]
 split at h
 ·rename_i a b hx hy
  rw [hx,hy]
  simp only [e,zAI,ho]
  rw [zAn,zAn,hx,hy]
  simp only [e]
  split at h
  ·rename_i fs hk
   rw [hk]
   simp only
   split at h
   ·rename_i q hq;rw [zQB _ _ _ _ _ hq];exact Kq hK (zAR _ (.b _)) h
   ·rename_i q hq;rw [zQB _ _ _ _ _ hq];exact Kq hK (zAR _ (.b _)) h
   ·cases h
  ·cases h
 ·rename_i g l hx hy
  rw [hx,hy]
  simp only [e,zAI,ho]
  rw [zAn,zAn,hx,hy]
  simp only [e]
  split at h
  ·rename_i t' hk
   rw [hk]
   simp only
   obtain ⟨h1,h2⟩:=zAD h
   obtain ⟨h3,h4⟩:=zAP h2
   simp only [Bool.not_eq_true',decide_eq_false_iff_not] at h3
   refine ⟨h1,fun z hz=>?_⟩
   have:z=false:=hz (by intro hl;rw [List.map_eq_nil_iff] at hl;rw [hl] at h3;exact h3 rfl)
   subst this
   exact Kq hK (zAR _ (.b _)) h4
  ·rename_i t' hk
   rw [hk]
   simp only
   obtain ⟨h1,h2⟩:=zAD h
   obtain ⟨h3,h4⟩:=zAP h2
   simp only [Bool.not_eq_true',decide_eq_false_iff_not] at h3
   refine ⟨h1,fun z hz=>?_⟩
   have:z=true:=hz (by intro hl;rw [List.map_eq_nil_iff] at hl;rw [hl] at h3;exact h3 rfl)
   subst this
   exact Kq hK (zAR _ (.b _)) h4
  ·cases h
 ·rename_i p q hx hy
  rw [hx,hy]
  simp only [e,zAI,ho]
  rw [zAn,zAn,hx,hy]
  simp only [e]
  split at h
  ·rename_i hk;rw [hk];exact Kq hK (zAR _ (.b _)) h
  ·rename_i hk;rw [hk];exact Kq hK (zAR _ (.b _)) h
  ·cases h
 ·rename_i k a k' b hx hy
  rw [hx,hy]
  simp only [e]
  exact zJO (x:=.i k a) (y:=.i k' b) (fun _ _ hh=>by cases hh.1) h fun v hv=>Kq hK (zAR _ v) hv
 ·rename_i a b hx hy
  rw [hx,hy]
  simp only [e]
  exact zJO (x:=.s a) (y:=.s b) (fun _ _ hh=>by cases hh.1) h fun v hv=>Kq hK (zAR _ v) hv
 ·cases h
theorem tunOp {op:UnOp} {t:TypeId} {x:Operand} (ho:o.op = .unOp op t x) (hK:∀ s,K s=some r→K' (eS s)) (h:tstep T C o s K=some r):zAf T C' o (eS s) K':=by
 simp only [tstep,ho] at h
 simp only [zAf,zAI,ho]
 rw [zAn]
 split at h
 ·rename_i hv;rw [hv];exact Kq hK (zAR _ (.b _)) h
 ·rename_i hv;rw [hv];exact Kq hK (zAR _ (.i _ _)) h
 ·cases h
theorem zDo {g g':GT} {l:List g'.Den} {K:List g.Den→Option R} (h:zRj l K=some r):∃ hs:g.same g'=true,K (zDp hs l)=some r:=by
 unfold zRj at h
 split at h
 ·exact ⟨_,h⟩
 ·cases h
theorem zFT:∀ l:List UInt8,bytesOf (l.map (encC false .byte))=some l
 | []=>rfl
 | c :: l=>by
   have hc:UInt8.ofNat (((c:UInt8).toNat:Int)).toNat=c:=by simp
   have h1:AM.byteOf (encC false .byte c)=some c:=by
    show some (UInt8.ofNat (((c:UInt8).toNat:Int)).toNat)=some c
    rw [hc]
   have h2:=zFT l
   rw [List.map_cons]
   unfold bytesOf
   rw [h1,h2]
theorem tconvert {src dst:TypeId} {x:Operand} (ho:o.op = .convert src dst x) (hK:∀ s,K s=some r→K' (eS s)) (h:tstep T C o s K=some r):zAf T C' o (eS s) K':=by
 simp only [tstep,ho] at h
 simp only [zAf,ho]
 rw [zAn]
 split at h
 ·rename_i k k' n hk hv
  rw [hk,hv]
  simp only [e]
  obtain ⟨h1,h2⟩:=zAD h
  exact zAQ h1 (Kq hK (zAR _ (.i _ _)) h2)
 ·rename_i t l hk hv
  rw [hk,hv]
  simp only [e,zAI,ho]
  rw [zAn,hk,hv]
  simp only [e]
  split at h
  ·rename_i h1 h2
   rw [h1,h2]
   exact Kq hK (zAR _ (.sl .byte _)) h
  ·cases h
 ·rename_i l hk hv
  rw [hk,hv]
  simp only [e,zAI,ho]
  rw [zAn,hk,hv]
  simp only [e]
  split at h
  ·rename_i h1;rw [h1];exact Kq hK (zAR _ (.s _)) h
  ·cases h
 ·rename_i g l hk hv
  rw [hk,hv]
  simp only [e,zAI,ho]
  rw [zAn,hk,hv]
  simp only [e]
  split at h
  ·rename_i t h1
   rw [h1]
   simp only
   split at h
   ·rename_i h2
    rw [h2]
    obtain ⟨hs,h3⟩:=zDo h
    have hm:=zBO hs l false
    rw [← hm,zFT]
    exact Kq hK (zAR _ (.s _)) h3
   ·cases h
  ·cases h
 ·rename_i g d l hk hv
  rw [hk,hv]
  simp only [e,zAI,ho]
  rw [zAn,hk,hv]
  simp only [e]
  split at h
  ·rename_i t h1
   rw [h1]
   simp only
   split at h
   ·rename_i h2
    rw [h2]
    obtain ⟨hs,h3⟩:=zDo h
    have hm:=zCz hs l (d:=false) (d':=d) (.inr rfl)
    rw [← hm,zFT]
    exact Kq hK (zAR _ (.s _)) h3
   ·cases h
  ·cases h
 ·cases h
theorem zVo:∀ xs:List Operand,xs.map (AM.ev (eS s).env)=eL (evTL s xs)
 | []=>rfl
 | x :: l=>by simp only [List.map_cons,evTL,eL,zAn,zVo l]
theorem zUO {f:Fn} {first caps:Array Operand} (ho:o.op = .makeFunc f first caps) (hK:∀ s,K s=some r→K' (eS s)) (h:tstep T C o s K=some r):zAf T C' o (eS s) K':=by
 simp only [tstep,ho] at h
 simp only [zAf,ho]
 split at h
 ·obtain ⟨h1,h2⟩:=zAD h
  rw [zVo,zDI]
  exact zAQ h1 (Kq hK (zAR _ (.fn _ _)) h2)
 ·cases h
theorem zNB:∀ (a b:List SV),tstep.eqSVs a b=true→a=b
 | [],[],_=>rfl
 | [],_ :: _,h=>by simp [tstep.eqSVs] at h
 | _ :: _,[],h=>by simp [tstep.eqSVs] at h
 | x :: l,y :: m,h=>by
   simp only [tstep.eqSVs,Bool.and_eq_true] at h
   rw [zNB l m h.2]
   congr 1
   have h1:=h.1
   split at h1
   ·simp only [eqK,Bool.and_eq_true,decide_eq_true_eq] at h1;rw [h1.1,h1.2]
   ·rw [eq_of_beq h1]
   ·rfl
   ·rw [eq_of_beq h1]
   ·cases h1
theorem zTR {t:TypeId} {x y:Operand} (ho:o.op = .makeSlice t x y) (hK:∀ s,K s=some r→K' (eS s)) (h:tstep T C o s K=some r):zAf T C' o (eS s) K':=by
 simp only [tstep,ho] at h
 simp only [zAf,zAI,ho]
 rw [zAn,zAn]
 split at h
 ·rename_i t' n m hk hx hy
  rw [hk,hx,hy]
  simp only [e]
  split at h
  ·rename_i g hg
   obtain ⟨h1,h2⟩:=zAD h
   obtain ⟨h3,h4⟩:=zAP h2
   simp only [Bool.and_eq_true,decide_eq_true_eq] at h1 h3
   refine ⟨h1.1.1.1,h3.1.1.1,h3.1.1.2,h3.1.2,h3.2,Kq hK ?_ h4⟩
   have:=zAR (s:=s) o.dst (.own g true (List.replicate n.toNat g.dflt))
   simp only [e,List.map_replicate] at this
   rw [zNB _ _ h1.1.2,← eq_of_beq h1.2]
   exact this
  ·cases h
 ·cases h
theorem zCq (d:Int):∀ x:Option Operand,zBn (eS s).env d x=zIB s d x
 | none=>rfl
 | some x=>by
   simp only [zBn,zIB,zAn]
   cases evT s x <;> rfl
theorem zMy (cs:List V) (n:Nat):eL (cs.drop n)=(eL cs).drop n:=by simp only [zQC,List.map_drop]
theorem zTT {t:TypeId} {x:Operand} {f:Nat} (ho:o.op = .fieldAddr t x f) (hK:∀ s,K s=some r→K' (eS s)) (h:tstep T C o s K=some r):zAf T C' o (eS s) K':=by
 simp only [tstep,ho] at h
 simp only [zAf,ho]
 rw [zAn]
 split at h
 ·rename_i fs a i off hk hv
  rw [hk,hv]
  simp only [e]
  split at h
  ·rename_i ft fo hf
   rw [hf]
   obtain ⟨h1,h2⟩:=zAD h
   exact zAQ h1 (Kq hK (zAR _ (.p _ _ _)) h2)
  ·cases h
 ·rename_i fs cs hk hv
  rw [hk,hv]
  simp only [e]
  split at h
  ·rename_i ft fo hf
   rw [hf]
   obtain ⟨h1,h2⟩:=zAD h
   refine zAQ h1 (Kq hK ?_ h2)
   rw [← zMy]
   exact zAR _ (.ro _)
  ·cases h
 ·cases h
theorem tfield {t:TypeId} {x:Operand} {f:Nat} (ho:o.op = .field t x f) (hK:∀ s,K s=some r→K' (eS s)) (h:tstep T C o s K=some r):zAf T C' o (eS s) K':=by
 simp only [tstep,ho] at h
 simp only [zAf,ho]
 rw [zAn]
 split at h
 ·rename_i fs cs hk hv
  rw [hk,hv]
  simp only [e]
  split at h
  ·rename_i ft fo hf
   rw [hf]
   obtain ⟨h1,h2⟩:=zAD h
   simp only
   rw [zDI,zAN,← zCy,zIl]
   exact zAQ h1 (Kq hK (zAR _ _) h2)
  ·cases h
 ·cases h
theorem zJG {g:GT} {l:List g.Den} {n:Int} {t:Nat} {d:Option Tmp} (ht:tyOk T t g=true) (hK:∀ s,K s=some r→K' (eS s)) (h:idxT s d K g l n=some r):(0≤n∧n<(l.map (encC false g)).length)∧ixN T t (l.map (encC false g)) n.toNat d (eS s) K':=by
 obtain ⟨h1,h2⟩:=zAP h
 have h1:=of_decide_eq_true h1
 obtain ⟨x,hx,h3⟩:=zGC h2
 have hlt:=zCS hx
 refine ⟨⟨h1,by rw [List.length_map];omega⟩,zQU ht l,tyOk_gen ht fun row hr=>?_⟩
 rw [List.getElem?_map,hx] at hr
 simp only [Option.map_some,Option.some.injEq] at hr
 subst hr
 rw [← zEu]
 exact Kq hK (zAR _ (.ro _)) h3
theorem zSs:∀ a b:List SV,frzL (a++b)=frzL a++frzL b
 | [],_=>rfl
 | x :: l,b=>by simp only [List.cons_append,frzL,zSs l b]
theorem zII:∀ l:List (List SV),zBu l=l.map frzL
 | []=>rfl
 | x :: l=>by simp only [zBu,List.map_cons,zII l]
theorem zMr:∀ (g:GT) (d:Bool) (x:g.Den),frzL (encC d g x)=encC false g x
 | .int _,_,_=>rfl
 | .byte,_,_=>rfl
 | .bool,_,_=>rfl
 | .str,_,_=>rfl
 | .sl g,d,l=>by
   cases d with
   | false=>rfl
   | true =>
     simp only [encC,frzL,frz,zII,List.map_map]
     congr 2
     exact List.map_congr_left fun x _=>zMr g true x
 | .unit,_,_=>rfl
 | .pair a b,d,x=>by simp only [encC,zSs,zMr a,zMr b]
theorem zCd (g:GT) (d:Bool) (l:List g.Den):zBu (l.map (encC d g))=l.map (encC false g):=by
 rw [zII,List.map_map]
 exact List.map_congr_left fun x _=>zMr g d x
mutual
theorem frz_e:∀ v:V,frz (e v)=e (frzV v)
 | .own g d l=>by simp only [e,frz,frzV,zCd]
 | .emp g=>rfl
 | .agg cs=>by simp only [e,frz,frzV,zRX cs]
 | .tup cs=>by simp only [e,frz,frzV,zRX cs]
 | .u | .sk | .i _ _ | .b _ | .s _ | .sl _ _ | .ar _ | .p _ _ _ | .ro _ | .nilp | .nil | .fn _ _=>rfl
theorem zRX:∀ l:List V,frzL (eL l)=eL (frzV.frzVL l)
 | []=>rfl
 | x :: l=>by simp only [eL,frzL,frzV.frzVL,frz_e x,zRX l]
end
theorem zVg (x:Operand):frzT (eS s) x=eS (zMs s x):=by
 cases x with
 | tmp t =>
   simp only [frzT,zMs]
   rw [zCV,zBR]
   cases zBC (zBf s t)
   ·rfl
   ·simp only [if_true];rw [frz_e,zCZ]
 | _=>rfl
theorem zTS {t:TypeId} {x y:Operand} (ho:o.op = .indexAddr t x y) (hK:∀ s,K s=some r→K' (eS s)) (h:tstep T C o s K=some r):zAf T C' o (eS s) K':=by
 simp only [tstep,ho] at h
 simp only [zAf,ho]
 rw [zAn,zAn]
 split at h
 ·rename_i t' g l k n hk hx hy
  rw [hk,hx,hy]
  simp only [e]
  obtain ⟨h1,h2⟩:=zAD h
  simp only [Bool.and_eq_true] at h1
  exact zAQ (by rw [h1.1,(zEX h1.2).2];simp) (zJG h1.2 hK h2)
 ·rename_i t' g d l k n hk hx hy
  rw [hk,hx,hy]
  simp only [e]
  obtain ⟨h1,h2⟩:=zAD h
  simp only [Bool.and_eq_true] at h1
  refine zAQ (by rw [h1.1,(zEX h1.2).2];simp) ?_
  rw [zCd,zVg,List.length_map]
  have:=zJG h1.2 hK h2
  rw [List.length_map] at this
  exact this
 ·rename_i t' a k n hk hx hy
  rw [hk,hx,hy]
  simp only [e]
  split at h
  ·rename_i m g d l hg
   rw [zBM hg]
   obtain ⟨h1,h2⟩:=zAD h
   obtain ⟨h3,h4⟩:=zAP h2
   simp only [Bool.and_eq_true,decide_eq_true_eq] at h3
   refine zAQ h1 ⟨⟨h3.1,by simp only [List.length_map];exact h3.2⟩,Kq hK (zAR _ (.p _ _ _)) h4⟩
  ·rename_i m g d l j cs hg
   rw [zBG hg]
   obtain ⟨h1,h2⟩:=zAD h
   obtain ⟨h3,h4⟩:=zAP h2
   simp only [Bool.and_eq_true,decide_eq_true_eq] at h3
   refine zAQ h1 ⟨⟨h3.1,by simp only [List.length_set,List.length_map];exact h3.2⟩,Kq hK (zAR _ (.p _ _ _)) h4⟩
  ·cases h
 ·cases h
theorem tindex {t:TypeId} {x y:Operand} (ho:o.op = .index t x y) (hK:∀ s,K s=some r→K' (eS s)) (h:tstep T C o s K=some r):zAf T C' o (eS s) K':=by
 simp only [tstep,ho] at h
 simp only [zAf,zAI,ho]
 rw [zAn,zAn]
 split at h
 ·rename_i l k n hk hx hy
  rw [hk,hx,hy]
  simp only [e]
  obtain ⟨h1,h2⟩:=zAP h
  have h1:=of_decide_eq_true h1
  obtain ⟨c,hc,h3⟩:=zGC h2
  have hlt:=zCS hc
  refine ⟨⟨h1,by omega⟩,fun c' hc'=>?_⟩
  rw [hc] at hc'
  simp only [Option.some.injEq] at hc'
  subst hc'
  exact Kq hK (zAR _ (.i _ _)) h3
 ·cases h
theorem textract {x:Operand} {j:Nat} (ho:o.op = .extract x j) (hK:∀ s,K s=some r→K' (eS s)) (h:tstep T C o s K=some r):zAf T C' o (eS s) K':=by
 simp only [tstep,ho] at h
 simp only [zAf,ho]
 split at h
 ·rename_i t
  simp only
  rw [zCV]
  split at h
  ·rename_i vs hv
   rw [hv]
   simp only [e]
   obtain ⟨h1,h2⟩:=zAD h
   rw [zAN,← zFt,zBR]
   refine zAQ h1 ?_
   revert h2
   cases zBC (lkV vs j)
   ·intro h2;exact Kq hK (zAR _ _) h2
   ·intro h2
    refine Kq hK ?_ h2
    simp only
    rw [show SV.tup (upd (eL vs) j .u)=e (.tup (updV vs j .u)) by simp only [e,zRf],zCZ,zAR]
  ·cases h
 ·cases h
end
end Go.TM
end
