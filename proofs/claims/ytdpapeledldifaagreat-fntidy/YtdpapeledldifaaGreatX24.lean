/- Part 25 of the proof of FnTidy; no condition. -/
import Derived.Test.YtdpapeledldifaaGreatX23
import Derived.SizedLaws
import Derived.JoinedOf
import Derived.Test.YtdpapeledldifaaGreatRows
set_option autoImplicit true
set_option relaxedAutoImplicit true
set_option linter.all false
namespace Go.TM
section
open Go.AM Go.RowKit Go.ChangeShapes Go.WideShapes Go.ChangeAt
def zXj {P:Program}{f:FuncId}{fn:Func}(hf:P.funcs[f]? = some fn)(hn:(fn.name == "runtime.NumGoroutine")=false) (hb:fn.body.isNone=false)
  {args:List SV} {Post:SV→List Ob→Prop} (h:AC P f args [] Post) (hp:∀sv e,Post sv e→sv = .b true)
  {W:World} {vs:Array Value} (hs:vs.size=args.length) (hr:∀G:Gh,(∀j,j<W.heap.size→G.F j)→RL W G args vs.toList zf) :
  Calls P f vs W fun e W'=>e = .returned (.bool true)∧Below W.heap.size W W':=by
 let G:Gh:=⟨fun j=>j<W.heap.size,fun _=>none⟩
 have hgo:=h W G vs zf hs (hr G fun _ hj=>hj) rfl ⟨fun _=>by simp[zf],fun _ _=>rfl,fun _ hg=>hg,fun _ hg=>by simp[zf]at hg⟩;rcases hgo with⟨_,hc⟩|⟨v,w',h1,_⟩
 ·refine hc.mono fun e W' ⟨v,he,sv,ext',G',fV,fO',h1,h2,h3,h4,h5,h6,h7,h8,h9,h10,h11,h12,h13,h14⟩=>?_
  have:=hp sv ext' h1;subst this;simp only[R]at h2;refine⟨by rw[he,h2.2],⟨h12,h13,h14,h11,fun k hk=>h8 k hk rfl⟩⟩
 ·rw[zKn hf hn hb]at h1;cases h1
def law_args {P:Program}{f:FuncId}{te:TEnt}(hc:zIk P f te.W){args:List SV}(y:te.inS.Den)(hy:te.Y)(harg:eL (zLe te.inS y)=args)(hob:zUj te.inS y=[])
  (hF:te.F y=some hy) (hres:te.res hy=some (.b true,[])):AC P f args [] fun sv _=>sv = .b true:=by
 refine hc _ _ _ ⟨y,hy,_,_,?_,?_,hF,hres,rfl⟩
 ·rw[harg];exact zAo _
 ·rw[hob];exact rfl
end
end Go.TM
namespace Go.Proofs.YtdpapeledldifaaGreat
section
open Go Go.AM Go.TM Go.RowKit Go.ChangeShapes Go.WideShapes Go.ChangeAt
def own:ownKnob Tryz.prog.godebug=none:=by kernel_rfl
def laidOut:laidOutB Tryz.prog=true:=by kernel_rfl
def rd22:rdT Tryz.prog 8 (.sl .byte) 22=true:=by kernel_rfl
def band {a b:Bool}(h1:a=true)(h2:b=true):(a&&b)=true:=by rw[h1,h2];rfl
end
end Go.Proofs.YtdpapeledldifaaGreat
