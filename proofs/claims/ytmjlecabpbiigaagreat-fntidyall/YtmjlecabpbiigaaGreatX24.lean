/- Part 25 of the proof of FnTidyAll; no condition. -/
import Derived.Test.YtmjlecabpbiigaaGreatX23
import Derived.SizedLaws
import Derived.JoinedOf
import Derived.Test.YtmjlecabpbiigaaGreatRows
open Option renaming some -> U
open Decidable renaming decide -> aa
open Bool renaming true -> ae
open Bool renaming false -> ag
open Option renaming none -> aj
open Sum renaming inr -> an
open Sum renaming inl -> ao
open List renaming length -> au
open Int renaming toNat -> aw
open List renaming drop -> cU
open List renaming take -> de
set_option autoImplicit true
set_option relaxedAutoImplicit true
set_option linter.all false
namespace Go.TM
section
open Go.AM Go.RowKit Go.ChangeShapes Go.WideShapes Go.ChangeAt
def Pk {P:Program}{f:FuncId}{fn:Func}(hf:P.funcs[f]? = U fn)(hn:(fn.name == "runtime.NumGoroutine")=ag) (hb:fn.body.isNone=ag)
  {args:List SV} {Post:SV->List Ob->Prop} (h:AC P f args [] Post) (hp:∀sv e,Post sv e->sv = .b ae)
  {W:World} {vs:Array Value} (hs:vs.size=args.length) (hr:∀G:Gh,(∀j,j<W.heap.size->G.F j)->RL W G args vs.toList zf) :
  Calls P f vs W fun e W'=>e = .returned (.bool ae)/\Below W.heap.size W W':=by
 let G:Gh:=⟨fun j=>j<W.heap.size,fun _=>aj⟩
 have hgo:=h W G vs zf hs (hr G fun _ hj=>hj) rfl ⟨fun _=>by simp[zf],fun _ _=>rfl,fun _ hg=>hg,fun _ hg=>by simp[zf]at hg⟩;rcases hgo with⟨_,hc⟩|⟨v,w',h1,_⟩
 ·refine hc.mono fun e W' ⟨v,he,sv,ext',G',fV,fO',h1,h2,h3,h4,h5,h6,h7,h8,h9,h10,h11,h12,h13,h14⟩=>?_
  have:=hp sv ext' h1;subst this;simp only[R]at h2;refine⟨by rw[he,h2.2],⟨h12,h13,h14,h11,fun k hk=>h8 k hk rfl⟩⟩
 ·rw[Nf hf hn hb]at h1;cases h1
def Pm {P:Program}{f:FuncId}{te:TEnt}(hc:kg P f te.W){args:List SV}(y:te.inS.Den)(hy:te.Y)(harg:eL (qB te.inS y)=args)(hob:qC te.inS y=[])
  (hF:te.F y=U hy) (hres:te.res hy=U (.b ae,[])):AC P f args [] fun sv _=>sv = .b ae:=by
 refine hc _ _ _ ⟨y,hy,_,_,?_,?_,hF,hres,rfl⟩
 ·rw[harg];exact eP _
 ·rw[hob];exact rfl
end
end Go.TM
namespace Go.Proofs.YtmjlecabpbiigaaGreat
section
open Go Go.AM Go.TM Go.RowKit Go.ChangeShapes Go.WideShapes Go.ChangeAt
def own:ownKnob Tryz.prog.godebug=aj:=by kernel_rfl
def Pn:laidOutB Tryz.prog=ae:=by kernel_rfl
def Po:nH Tryz.prog 8 (.sl .byte) 22=ae:=by kernel_rfl
def Pp {a b:Bool}(h1:a=ae)(h2:b=ae):(a&&b)=ae:=by rw[h1,h2];rfl
end
end Go.Proofs.YtmjlecabpbiigaaGreat
