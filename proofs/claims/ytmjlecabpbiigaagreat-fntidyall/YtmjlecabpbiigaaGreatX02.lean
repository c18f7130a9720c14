/- Part 3 of the proof of FnTidyAll; no condition. -/
import Derived.Test.YtmjlecabpbiigaaGreatX01
import Derived.Laws.BytesArg
open Option renaming some -> U
open Decidable renaming decide -> aa
open Bool renaming true -> ae
open Bool renaming false -> ag
open Option renaming none -> aj
open Sum renaming inr -> an
open Sum renaming inl -> ao
open List renaming length -> au
open Int renaming toNat -> aw
open List renaming drop -> cU
open List renaming take -> de
set_option autoImplicit true
set_option relaxedAutoImplicit true
set_option linter.all false
section
namespace Go.AM
section
variable {P:Program}{T:Nat->TI}{C:zAz}{w0 w w':World}{L:Lv}{st st1:St}{a:Act}{G G':Gh}{fE fO fX fV:FP}{o:Oper}{K:St->Prop}{Q:Exit->Act->World->Prop}{v:Value}{sv:SV}
def aU.evs (h:aU w0 L st a.tmps w G fE fO fX):∀(xs:List Operand),eF (xs.map (AM.ev st.env))=ag->RL w G (xs.map (AM.ev st.env)) (xs.map a.eval) zf
 |[],_=>by simp[RL]
 | x::xs,hx=>by
   simp only[bF,eF,Bool.or_eq_false_iff]at hx;simp only[bF,RL]
   exact⟨_,_,zf,zf,rfl,h.ev0 a rfl x hx.1,h.evs xs hx.2,by funext j;simp[zf]⟩
def E4 {f:Fn}{first caps:Array Operand}(ho:o.op = .makeFunc f first caps)(h:SR w0 L st a.tmps w G)(hk:a9 T C o st K):Ow P T o a w (Nx w0 L a.defers K) Q:=by
 obtain⟨fE,fO,h⟩:=h;simp only[a9,ho]at hk;split at hk
 ·rename_i n;obtain⟨hf,hown,hk⟩:=hk;have hfirst:first = #[]:=by simpa using hf
  subst hfirst;have hr:=h.evs caps.toList hown;refine cm h (v:=.func (.func n) #[] (caps.map a.eval)) (by simp[execOp,ho,Instr.makeFunc]) ?_ hk;simp only[R]
  exact⟨trivial,_,rfl,by simp,by simpa using hr⟩
 ·exact hk.elim
def E5 {z:List Value}{k:Nat}(hk:z.length=k)(h1:∀ v∈z,v.oneCell'=ae):∀(n:Nat) (cs:List Value),(∀j,j<n*k->cs[j]? = z[j % k]?)->aH w G (List.replicate n (z.map zCe)) cs zf
 |0,cs,_=>by simp[aH]
 | n+1,cs,h=>by
   have hlt:∀j,j<k->cs[j]? = z[j]?:=by
    intro j hj;rw[h j (by rw[Nat.add_mul];omega),Nat.mod_eq_of_lt hj]
   simp only[List.replicate_succ,aH]
   refine⟨zf,zf,j8 _ _ _ _ (fun j hj=>hlt j (by simpa[hk]using hj)) (Ai w G z),?_,E5 hk h1 n _ ?_,by funext j;simp[zf]⟩
   ·intro j v hj hv;rw[hlt j (by simpa[hk]using hj)]at hv;exact h1 v (dO hv)
   ·intro j hj;simp only[List.getElem?_drop,cG,hk]
    rw[h (k+j) (by rw[Nat.add_mul];omega),Nat.add_mod_left]
def MU {t:Nat}{x y:Operand}(hT:bU P T)(ho:o.op = .makeSlice t x y)(h:SR w0 L st a.tmps w G)(hk:a9 T C o st K):o.wp P a w (Nx w0 L a.defers K) Q:=by
 obtain⟨fE,fO,h⟩:=h;simp only[a9,ho]at hk;split at hk
 ·rename_i e n m hkd e1 e2;obtain⟨hkn,rfl,h0,h63,hby,hk⟩:=hk;have hx:=h.ev0 a rfl x (by rw[e1];rfl);have hy:=h.ev0 a rfl y (by rw[e2];rfl);rw[e1]at hx;rw[e2]at hy;simp only[R]at hx hy;obtain⟨i,z,d,hi,hsi,hbyt,hz,hzz,hone,hzl,hc1,hpl,hd,hkdd,hagg,_,hst⟩:=hT.ok e hkn;have hzs:z.cells.toList.length=(T e).size:=by rw[<-hzl,<-hzz];simp
  have hrun:(execOp a.eval o).run P w = .ok (.value (.slice (U ⟨w.heap.size,0,aj⟩) n.toNat n.toNat)) (w.alloc (.cells (madeCells z.cells (n.toNat*(T e).size)) e)):=by
   have:=run_make (P:=P) w t e i z (hT.slice hkd) hi hz .i64 .i64 n n h0 (Int.le_refl _) (by rw[hbyt,Int.mul_comm];omega) h63;rw[hsi]at this;simp[execOp,ho,hx.2,hy.2,this]
  have h2:=h.fresh (.cells (madeCells z.cells (n.toNat*(T e).size)) e);refine ow hrun h2 (sv:=.own (T e).size (List.replicate n.toNat (T e).zero)) (fV:=fun j=>one w.heap.size j+zf j) ?_ (fun j=>by simp only[zf];omega) hk;simp only[R]
  right;refine⟨w.heap.size,0,n.toNat,_,e,zf,by simp,by simp,heap_alloc_new w _,by simp[size_madeCells],fun r hr=>by rw[List.eq_of_mem_replicate hr];exact hzl,?_,rfl⟩;rw[<-hzz];refine E5 hzs hone n.toNat _ ?_;intro j hj;have hj':j<n.toNat*(T e).size:=hj
  have hpos:0<(T e).size:=by
   rcases Nat.eq_zero_or_pos (T e).size with h0|h0
   ·rw[h0]at hj';simp at hj'
   ·exact h0
  have hzs':z.cells.size=(T e).size:=by simpa using hzs
  have hm:j % z.cells.size<z.cells.size:=Nat.mod_lt _ (hzs'▸hpos);simp only[List.drop_zero,madeCells,Array.getElem?_toList,Array.getElem?_map,Array.getElem?_range,hj',if_true,Option.map_some]
  rw[<-hzs'];simp[hm]
 ·exact hk.elim
def Aj:∀(rows:List (List SV)) (l:List UInt8),bytesOf rows=U l->∃ns:List Int,rows=ns.map (fun n=>[SV.i .u8 n])/\l=ns.map (fun n=>UInt8.ofNat n.toNat)
 |[],l,h=>by simp[bytesOf]at h;exact⟨[],by simp,by simp[h]⟩
 | r::rows,l,h=>by
   simp only[bytesOf]at h;cases hb:byteOf r with
   |none=>rw[hb]at h;simp at h
   | some c=>
     cases hr:bytesOf rows with
     |none=>rw[hb,hr]at h;simp at h
     | some cs=>
       rw[hb,hr]at h;simp at h;obtain⟨ns,h1,h2⟩:=Aj rows cs hr;unfold byteOf at hb;split at hb
       ·rename_i n;simp at hb;exact⟨n::ns,by simp[h1],by rw[<-h,h2,<-hb];simp⟩
       ·simp at hb
def Ak:∀(ns:List Int) (vs:List Value) (f:FP),aH w G (ns.map fun n=>[SV.i .u8 n]) vs f->∀i (hi:i<ns.length),vs[i]? = U (.int .u8 ns[i])
 |[],vs,f,_,i,hi=>by simp at hi
 | n::ns,vs,f,h,i,hi=>by
   simp only[bF,aH,RL]at h;obtain⟨f1,f2,⟨v,vs',g1,g2,hv,hr,_⟩,_,h2,_⟩:=h;subst hv;simp only[R]at hr;cases i with
   |zero=>simp[hr.2]
   | succ i=>
     have:=Ak ns _ f2 h2 i (by simpa using hi);simpa using this
def Al {src dst e:Nat}{x:Operand}(hT:bU P T)(ho:o.op = .convert src dst x)(hks:(T src).kind = .slice e)(hke:(T e).kind = .int .u8)(hkd:(T dst).kind = .str){p:Option Addr}{ns:List Int}{cap:Nat}(hv:a.eval x = .slice p ns.length cap)
  (hc:ns=[]\/∃g base c e fr,p=U ⟨g,base,aj⟩/\w.heap[g]? = U (.cells c e fr)/\∀i (hi:i<ns.length),(c.toList.drop base)[i]? = U (.int .u8 ns[i])) :
  (execOp a.eval o).run P w = .ok (.value (.string ⟨(ns.map fun n=>UInt8.ofNat n.toNat).toArray⟩)) w:=by
 have key:(convert src dst (.slice p ns.length cap)).run P w = .ok (.string (strOfNums ns)) w:=by
  cases p with
  | none=>
    rcases hc with rfl|⟨g,base,c,e,fr,hp,_⟩
    ·have:=run_convert_bytes_nil (P:=P) w src e (hT.slice hks) (hT.int hke) 0 cap dst (hT.str hkd);exact this
    ·simp at hp
  | some q=>
    rcases hc with rfl|⟨g,base,c,e',fr,hp,hh,hcell⟩
    ·have h1:=run_convert_bytes_string (P:=P) w src dst e (U q) 0 cap (hT.slice hks) (hT.int hke) (hT.str hkd);simp only[cX]
     rw[h1];have h2:=run_loadCells_list (P:=P) w q [] (fun j v hj=>by simp at hj);have h3:=run_bytesToString (P:=P) w q 0 cap [] (by simpa using h2);rw[h3];rfl
    ·simp only[aF]at hp;subst hp;refine run_convert_bytes_arg (P:=P) w src e (hT.slice hks) (hT.int hke) g base ns.length cap ns rfl (fun i hi=>?_) dst (hT.str hkd);rw[rS hh];have:=hcell i hi;rw[List.getElem?_drop]at this;simpa[List.getD_eq_getElem?_getD,bI hi]using this
 simp[execOp,ho,hv,key,strOfNums]
def E6 {src dst:Nat}{x:Operand}(hT:bU P T)(ho:o.op = .convert src dst x)(h:SR w0 L st a.tmps w G)(hk:a9 T C o st K):Ow P T o a w (Nx w0 L a.defers K) Q:=by
 obtain⟨fE,fO,h⟩:=h;simp only[a9,ho]at hk;split at hk
 ·rename_i k k0 n hkd e1;obtain⟨hkn,hk⟩:=hk;have hx:=h.ev0 a rfl x (by rw[e1];rfl);rw[e1]at hx;simp only[R]at hx;obtain⟨i,z,d,_,_,_,_,_,_,_,_,_,hd,_⟩:=hT.ok src hkn;refine cm h (v:=.int k (k.wrap n)) ?_ (by simp[R]) hk;simp[execOp,ho,hx.2,convert,run_underlying hd,run_underlying (hT.int hkd),Conv.intToInt]
 ·rename_i e l hkd e1;have hx:=h.ev0 a rfl x (by rw[e1];rfl);rw[e1]at hx;simp only[R]at hx;split at hk
  ·rename_i hke hks
   have hrun:(execOp a.eval o).run P w = .ok (.value (.slice (U ⟨w.heap.size,0,aj⟩) l.length (grownCap w l.length 0 e))) (Lib.bytesWorld w e ⟨l.toArray⟩):=by
    have:=Lib.run_convert_string_bytes (P:=P) w src dst e ⟨l.toArray⟩ (hT.str hks) (hT.slice hkd) (hT.int hke);have e2:(ByteArray.mk l.toArray).size=l.length:=by simp[ByteArray.size]
    rw[e2]at this;simp[execOp,ho,hx.2,this]
   let G':Gh:=⟨fun g=>G.F g\/g=w.heap.size,G.β⟩
   have hz:fE w.heap.size+fO w.heap.size+zf w.heap.size=0:=by have:=h.lt w.heap.size;omega
   have h2:aU w0 L st a.tmps (Lib.bytesWorld w e ⟨l.toArray⟩) G' fE fO zf:=h.frame (by rw[Lib.bytesWorld_size];omega) rfl rfl rfl (fun _ hg=>.inl hg) rfl (fun g hg=>by
    rcases hg with hg|hg
    ·exact .inl hg
    ·subst hg
     exact .inr ⟨hz,fun hL=>by have:=h.lsize _ hL;have:=h.grow;omega,by rw[Lib.bytesWorld_size];omega⟩) (fun g hg=>Lib.bytesWorld_at_old w e _ g hg)
   refine⟨?_,.inr (by simp[uQ,ho,hkd])⟩;refine ow hrun h2 (sv:=.sl 1 (mW l)) (fV:=zf) ?_ (fun j=>bJ _) hk;have hnew:=Lib.bytesWorld_at_new w e ⟨l.toArray⟩;simp only[R]
   refine⟨trivial,_,_,by rw[mW,cG],by rw[mW,cG];exact grownCap_ge w l.length 0 e,.inr ⟨w.heap.size,0,_,e,_,rfl,.inr rfl,hnew,by simp[mW],?_⟩⟩
   have key:∀(l:List UInt8) (tail:List Value),aH (Lib.bytesWorld w e ⟨l.toArray⟩) G'.pure (mW l) (l.map (fun c=>Value.int .u8 c.toNat)++tail) zf/\True:=by
    intro l tail;refine⟨?_,trivial⟩;generalize (Lib.bytesWorld w e ⟨l.toArray⟩)=ww
    induction l with
    |nil=>simp[mW,aH]
    | cons c l ih=>
      simp only[mW,bF,aH,RL,cF]at ih ⊢;refine⟨zf,zf,⟨_,_,zf,zf,rfl,by simp[R],rfl,by funext j;simp[zf]⟩,?_,by simpa using ih,by funext j;simp[zf]⟩;intro j v hj hv;have:j=0:=by simpa using hj
      subst this;simp at hv;subst hv;rfl
   have:=(key l (Array.replicate (grownCap w (ByteArray.mk l.toArray).size 0 e-(ByteArray.mk l.toArray).size) (Value.int .u8 0)).toList).1;simpa[Lib.bytesCells]using this
  ·exact hk.elim
 ·rename_i v hkd;split at hk
  ·rename_i l e1 hks;have hx:=h.ev0 a rfl x (by rw[e1];rfl);rw[e1]at hx;simp only[R]at hx;refine cm h (v:=.string ⟨l.toArray⟩) ?_ (by simp[R]) hk;simp[execOp,ho,hx.2,convert,run_underlying (hT.str hks),run_underlying (hT.str hkd)]
  ·rename_i k rows e e1 hks;split at hk
   ·rename_i l hke hb;obtain⟨ns,rfl,rfl⟩:=Aj _ _ hb;have hx:=h.ev0 a rfl x (by rw[e1];rfl);rw[e1]at hx;simp only[R]at hx;obtain⟨_,p,cap,hv,_,hrows⟩:=hx;rw[cG]at hv;refine cm h (Al hT ho hks hke hkd hv ?_) (sv:=.s _) (by simp[R]) hk;rcases hrows with h0|⟨g,base,c,e,fr,hp,_,hh,_,hrr⟩
    ·left;simpa using h0
    ·right;exact⟨g,base,c,e,fr,hp,hh,fun i hi=>Ak ns _ _ hrr i hi⟩
   ·exact hk.elim
  ·rename_i k rows e e1 hks;split at hk
   ·rename_i l hke hb;obtain⟨ns,rfl,rfl⟩:=Aj _ _ hb;obtain⟨f1,hx,_⟩:=h.ev a rfl x;rw[e1]at hx;simp only[R]at hx;rcases hx with⟨h0,_,p,hv⟩|⟨g,base,cap,c,e,f',hv,hcap,hh,_,_,hrr,_⟩
    ·have hns:ns=[]:=by simpa using h0
     subst hns;exact cm h (Al (ns:=[]) hT ho hks hke hkd hv (.inl rfl)) (sv:=.s _) (by simp[R]) hk
    ·rw[cG]at hv;exact cm h (Al hT ho hks hke hkd hv (.inr ⟨g,base,c,e,_,rfl,hh,fun i hi=>Ak ns _ _ hrr i hi⟩)) (sv:=.s _) (by simp[R]) hk
   ·exact hk.elim
  ·exact hk.elim
 ·exact hk.elim
end
end Go.AM
end
