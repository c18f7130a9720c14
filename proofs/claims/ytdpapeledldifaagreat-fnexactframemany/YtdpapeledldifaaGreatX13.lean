/- Part 14 of the proof that, for every class, FrameMany of the code and of the specification agree; no condition. -/
import Derived.Test.YtdpapeledldifaaGreatX12
import Derived.Lib.Bytealg
import Derived.Laws.Externs
set_option autoImplicit true
set_option relaxedAutoImplicit true
set_option linter.all false
section
namespace Go.Proofs.YtdpapeledldifaaGreat
open Go Go.AM Go.TM
set_option maxRecDepth 100000
abbrev ti322 : SPat := ⟨[(0, .s), (1, .i .u8)], []⟩
abbrev to322 : SPat := ⟨[(2, .i .i64)], []⟩
def F322 : List UInt8 × Int → Option Int := fun (s, c) => some (Lib.indexByte s c.toNat.toUInt8)
def te322 : TEnt := ⟨322, true, [], ti322, to322.Den, F322, fun y => some (.i .i64 y, [])⟩
theorem c322 : CtrOk Tryz.prog 322 te322.W := by
 rintro args ob K ⟨⟨s, c⟩, y, v, obs, h1, h2, h3, h4, h5⟩
 refine AC.le h1 h2 ?_
 have h3 : some (Lib.indexByte s c.toNat.toUInt8) = some y := h3
 have h4 : some (V.i .i64 y, ([] : List TO)) = some (v, obs) := h4
 obtain ⟨rfl, rfl⟩ := Prod.mk.inj (Option.some.inj h4)
 have hy : y = Lib.indexByte s c.toNat.toUInt8 := (Option.some.inj h3).symm
 subst hy
 intro w G vs fO hlen hr hO hown
 have hr : RL w G [SV.s s, SV.i .u8 c] vs.toList zf := hr
 have hO : ROs w G [] fO := hO
 have hz : fO = zf := hO
 subst hz
 have hvs : vs = #[.string ⟨s.toArray⟩, .int .u8 c] := by
  simp only [RL, R] at hr
  obtain ⟨v1, r1, f1, f2, e1, ⟨_, rfl⟩, ⟨v2, r2, f3, f4, e2, ⟨_, rfl⟩, _, _⟩, _⟩ := hr
  have hsz : vs.toList.length = 2 := hlen
  rw [e1, e2] at hsz
  have : r2 = [] := by simpa using hsz
  rw [this] at e2
  rw [e2] at e1
  exact Array.toList_inj.1 (by rw [e1])
 refine .inr ⟨.int .i64 (Lib.indexByte s c.toNat.toUInt8), w, ?_, ?_⟩
 ·rw [run_callFunc_extern Tryz.func322 (by kernel_rfl) (by kernel_rfl) (by kernel_rfl) (e := Extern.BytealgIndexByte.indexByte) (by kernel_rfl), hvs]
  have hrun := Lib.run_indexByteString (P := Tryz.prog) ⟨(s : List UInt8).toArray⟩ (c : Int) w
  exact (congrArg (fun r => Result.andThen r fun v w' => Result.ok (Next.value v) w') hrun).trans rfl
 ·exact ⟨_, [], G, zf, zf, h5, by simp [e, R], rfl, ⟨fun g => by simp [zf], fun g _ => by simp [zf], hown.2.2.1, fun g hg => by simp [zf] at hg⟩, fun g h => h, fun g _ h => .inl h, fun g _ h => by simp [zf] at h, fun g _ _ => rfl, fun n _ => rfl, by simp [names, eOs], Nat.le_refl _, rfl, rfl, rfl⟩
def tb322 : Nat → Option TEnt := insT 322 te322 tbT0
theorem ok322 : TbOk Tryz.prog tb322 := TbOk.ins TbOk.nil c322
end Go.Proofs.YtdpapeledldifaaGreat
end
noncomputable section
namespace Go.Proofs.YtdpapeledldifaaGreat
open Go Go.AM Go.TM
set_option maxRecDepth 100000
set_option maxHeartbeats 4000000
abbrev ti154 : SPat := ⟨[(0, .agg (pl [.i .i64, .s, .i .i64, .i .i64])), (1, .i .i64)], []⟩
abbrev to154 : SPat := ⟨[(4, .i .i64)], []⟩
def F154 : (Cst) × Int → Option (Int) := fun ((a0, a1, a2, a3), left) =>
 cndO (decide (IntKind.wrap .i64 (left - (a1.length : Int)) < (0 : Int)))
  (some ((-1 : Int)))
  (some (IntKind.wrap .i64 (left - (a1.length : Int))))
theorem r154 (x : (Cst) × Int) : funT T tb322 noPl 13 noIv (bodyOf Tryz.f154) ti154 to154 x = F154 x := by kernel_rfl
def te154 : TEnt := ⟨154, true, [], ti154, to154.Den, F154, resF T [.tmp 4] 13 to154 []⟩
def tb154 : Nat → Option TEnt := insT 154 te154 tb322
theorem ok154 : TbOk Tryz.prog tb154 := TbOk.ins ok322 (fun_ok ok322 layOk mixed true _ ti154 to154 [] noPl noIv Tryz.func154 rfl Tryz.results154 Tryz.ntmps154 (by kernel_rfl) (by kernel_rfl) Tryz.call154 F154 fun x _ h => (r154 x).trans h)
abbrev ti71 : SPat := ⟨[(0, .sl tg27), (1, .i .i64)], []⟩
abbrev to71 : SPat := ⟨[(4, .i .i64)], []⟩
abbrev ts71_5 : SPat := ⟨[(0, .sl tg27), (1, .i .i64), (5, .i .i64)], []⟩
abbrev ts71_2000000 : SPat := ⟨[(1, .i .i64)], []⟩
def tv71 : Nat → Option SPat := fun k => bif k == 5 then some ts71_5 else bif k == 2000000 then some ts71_2000000 else none
def F71 : List Cst × Int → Option (Int) := fun (a, left) =>
 cndO (decide (IntKind.wrap .i64 (left - (a.length : Int)) < (0 : Int)))
  (some ((-1 : Int)))
  (bindE (whileO (fun (a1, left1, i) =>
    cndO (decide (i < (a1.length : Int)))
     (grdO (decide ((0 : Int) ≤ i)) (atO (a1) i.toNat fun x => bindO (F154 ((x.1, x.2.1, x.2.2.1, x.2.2.2), left1)) fun y =>
     cndO (decide (y < (0 : Int)))
      (some (Sum.inr (Sum.inr (-1 : Int))))
      (some (Sum.inl (a1, y, IntKind.wrap .i64 (i + (1 : Int)))))))
     (some (Sum.inr (Sum.inl left1)))) ((a, IntKind.wrap .i64 (left - (a.length : Int)), (0 : Int)))) fun left1 =>
  some (left1))
theorem r71 (x : List Cst × Int) : funT T tb154 noPl 27 tv71 (bodyOf Tryz.f71) ti71 to71 x = F71 x := by kernel_rfl
def te71 : TEnt := ⟨71, true, [], ti71, to71.Den, F71, resF T [.tmp 4] 27 to71 []⟩
def tb71 : Nat → Option TEnt := insT 71 te71 tb154
theorem ok71 : TbOk Tryz.prog tb71 := TbOk.ins ok154 (fun_ok ok154 layOk mixed true _ ti71 to71 [] noPl tv71 Tryz.func71 rfl Tryz.results71 Tryz.ntmps71 (by kernel_rfl) (by kernel_rfl) Tryz.call71 F71 fun x _ h => (r71 x).trans h)
abbrev ti72 : SPat := ⟨[(0, .sl (.int .i64)), (1, .i .i64)], []⟩
abbrev to72 : SPat := ⟨[(4, .i .i64)], []⟩
def F72 : List Int × Int → Option (Int) := fun (a, left) =>
 cndO (decide (IntKind.wrap .i64 (left - (a.length : Int)) < (0 : Int)))
  (some ((-1 : Int)))
  (some (IntKind.wrap .i64 (left - (a.length : Int))))
theorem r72 (x : List Int × Int) : funT T tb71 noPl 12 noIv (bodyOf Tryz.f72) ti72 to72 x = F72 x := by kernel_rfl
def te72 : TEnt := ⟨72, true, [], ti72, to72.Den, F72, resF T [.tmp 4] 12 to72 []⟩
def tb72 : Nat → Option TEnt := insT 72 te72 tb71
theorem ok72 : TbOk Tryz.prog tb72 := TbOk.ins ok71 (fun_ok ok71 layOk mixed true _ ti72 to72 [] noPl noIv Tryz.func72 rfl Tryz.results72 Tryz.ntmps72 (by kernel_rfl) (by kernel_rfl) Tryz.call72 F72 fun x _ h => (r72 x).trans h)
abbrev ti73 : SPat := ⟨[(0, .sl tg89), (1, .i .i64)], []⟩
abbrev to73 : SPat := ⟨[(4, .i .i64)], []⟩
def F73 : List (Int × Int × Int) × Int → Option (Int) := fun (a, left) =>
 cndO (decide (IntKind.wrap .i64 (left - (a.length : Int)) < (0 : Int)))
  (some ((-1 : Int)))
  (some (IntKind.wrap .i64 (left - (a.length : Int))))
theorem r73 (x : List (Int × Int × Int) × Int) : funT T tb72 noPl 12 noIv (bodyOf Tryz.f73) ti73 to73 x = F73 x := by kernel_rfl
def te73 : TEnt := ⟨73, true, [], ti73, to73.Den, F73, resF T [.tmp 4] 12 to73 []⟩
def tb73 : Nat → Option TEnt := insT 73 te73 tb72
theorem ok73 : TbOk Tryz.prog tb73 := TbOk.ins ok72 (fun_ok ok72 layOk mixed true _ ti73 to73 [] noPl noIv Tryz.func73 rfl Tryz.results73 Tryz.ntmps73 (by kernel_rfl) (by kernel_rfl) Tryz.call73 F73 fun x _ h => (r73 x).trans h)
abbrev ti229 : SPat := ⟨[(0, .sl tg147), (1, .i .i64)], []⟩
abbrev to229 : SPat := ⟨[(4, .i .i64)], []⟩
def F229 : List (Int × Int × Int × Int) × Int → Option (Int) := fun (a, left) =>
 cndO (decide (IntKind.wrap .i64 (left - (a.length : Int)) < (0 : Int)))
  (some ((-1 : Int)))
  (some (IntKind.wrap .i64 (left - (a.length : Int))))
theorem r229 (x : List (Int × Int × Int × Int) × Int) : funT T tb73 noPl 12 noIv (bodyOf Tryz.f229) ti229 to229 x = F229 x := by kernel_rfl
def te229 : TEnt := ⟨229, true, [], ti229, to229.Den, F229, resF T [.tmp 4] 12 to229 []⟩
def tb229 : Nat → Option TEnt := insT 229 te229 tb73
theorem ok229 : TbOk Tryz.prog tb229 := TbOk.ins ok73 (fun_ok ok73 layOk mixed true _ ti229 to229 [] noPl noIv Tryz.func229 rfl Tryz.results229 Tryz.ntmps229 (by kernel_rfl) (by kernel_rfl) Tryz.call229 F229 fun x _ h => (r229 x).trans h)
abbrev ti318 : SPat := ⟨[(0, .sl tg184), (1, .i .i64)], []⟩
abbrev to318 : SPat := ⟨[(4, .i .i64)], []⟩
def F318 : List (Int × Int) × Int → Option (Int) := fun (a, left) =>
 cndO (decide (IntKind.wrap .i64 (left - (a.length : Int)) < (0 : Int)))
  (some ((-1 : Int)))
  (some (IntKind.wrap .i64 (left - (a.length : Int))))
theorem r318 (x : List (Int × Int) × Int) : funT T tb229 noPl 12 noIv (bodyOf Tryz.f318) ti318 to318 x = F318 x := by kernel_rfl
def te318 : TEnt := ⟨318, true, [], ti318, to318.Den, F318, resF T [.tmp 4] 12 to318 []⟩
def tb318 : Nat → Option TEnt := insT 318 te318 tb229
theorem ok318 : TbOk Tryz.prog tb318 := TbOk.ins ok229 (fun_ok ok229 layOk mixed true _ ti318 to318 [] noPl noIv Tryz.func318 rfl Tryz.results318 Tryz.ntmps318 (by kernel_rfl) (by kernel_rfl) Tryz.call318 F318 fun x _ h => (r318 x).trans h)
abbrev ti283 : SPat := ⟨[(0, .agg (pl [.i .i64, .sl tg184, .sl tg184])), (1, .i .i64)], []⟩
abbrev to283 : SPat := ⟨[(4, .i .i64)], []⟩
def F283 : (Frm) × Int → Option (Int) := fun ((a0, a1, a2), left) =>
 bindO (F318 (a1, left)) fun y =>
 cndO (decide (y < (0 : Int)))
  (some ((-1 : Int)))
  (bindO (F318 (a2, y)) fun y1 =>
  cndO (decide (y1 < (0 : Int)))
   (some ((-1 : Int)))
   (some (y1)))
theorem r283 (x : (Frm) × Int) : funT T tb318 noPl 18 noIv (bodyOf Tryz.f283) ti283 to283 x = F283 x := by kernel_rfl
def te283 : TEnt := ⟨283, true, [], ti283, to283.Den, F283, resF T [.tmp 4] 18 to283 []⟩
def tb283 : Nat → Option TEnt := insT 283 te283 tb318
theorem ok283 : TbOk Tryz.prog tb283 := TbOk.ins ok318 (fun_ok ok318 layOk mixed true _ ti283 to283 [] noPl noIv Tryz.func283 rfl Tryz.results283 Tryz.ntmps283 (by kernel_rfl) (by kernel_rfl) Tryz.call283 F283 fun x _ h => (r283 x).trans h)
abbrev ti230 : SPat := ⟨[(0, .sl tg100), (1, .i .i64)], []⟩
abbrev to230 : SPat := ⟨[(4, .i .i64)], []⟩
abbrev ts230_5 : SPat := ⟨[(0, .sl tg100), (1, .i .i64), (5, .i .i64)], []⟩
abbrev ts230_2000000 : SPat := ⟨[(1, .i .i64)], []⟩
def tv230 : Nat → Option SPat := fun k => bif k == 5 then some ts230_5 else bif k == 2000000 then some ts230_2000000 else none
def F230 : List Frm × Int → Option (Int) := fun (a, left) =>
 cndO (decide (IntKind.wrap .i64 (left - (a.length : Int)) < (0 : Int)))
  (some ((-1 : Int)))
  (bindE (whileO (fun (a1, left1, i) =>
    cndO (decide (i < (a1.length : Int)))
     (grdO (decide ((0 : Int) ≤ i)) (atO (a1) i.toNat fun x => bindO (F283 ((x.1, x.2.1, x.2.2), left1)) fun y =>
     cndO (decide (y < (0 : Int)))
      (some (Sum.inr (Sum.inr (-1 : Int))))
      (some (Sum.inl (a1, y, IntKind.wrap .i64 (i + (1 : Int)))))))
     (some (Sum.inr (Sum.inl left1)))) ((a, IntKind.wrap .i64 (left - (a.length : Int)), (0 : Int)))) fun left1 =>
  some (left1))
theorem r230 (x : List Frm × Int) : funT T tb283 noPl 27 tv230 (bodyOf Tryz.f230) ti230 to230 x = F230 x := by kernel_rfl
def te230 : TEnt := ⟨230, true, [], ti230, to230.Den, F230, resF T [.tmp 4] 27 to230 []⟩
def tb230 : Nat → Option TEnt := insT 230 te230 tb283
theorem ok230 : TbOk Tryz.prog tb230 := TbOk.ins ok283 (fun_ok ok283 layOk mixed true _ ti230 to230 [] noPl tv230 Tryz.func230 rfl Tryz.results230 Tryz.ntmps230 (by kernel_rfl) (by kernel_rfl) Tryz.call230 F230 fun x _ h => (r230 x).trans h)
abbrev ti155 : SPat := ⟨[(0, .agg (pl plM)), (1, .i .i64)], []⟩
abbrev to155 : SPat := ⟨[(4, .i .i64)], []⟩
def F155 : (Mth) × Int → Option (Int) := fun ((a0, a1, a2, a3, a4, a5, a6, a7), left) =>
 cndO (decide (IntKind.wrap .i64 (left - (a5.length : Int)) < (0 : Int)))
  (some ((-1 : Int)))
  (bindO (F229 (a6, IntKind.wrap .i64 (left - (a5.length : Int)))) fun y =>
  cndO (decide (y < (0 : Int)))
   (some ((-1 : Int)))
   (bindO (F230 (a7, y)) fun y1 =>
   cndO (decide (y1 < (0 : Int)))
    (some ((-1 : Int)))
    (some (y1))))
theorem r155 (x : (Mth) × Int) : funT T tb230 noPl 25 noIv (bodyOf Tryz.f155) ti155 to155 x = F155 x := by kernel_rfl
def te155 : TEnt := ⟨155, true, [], ti155, to155.Den, F155, resF T [.tmp 4] 25 to155 []⟩
def tb155 : Nat → Option TEnt := insT 155 te155 tb230
theorem ok155 : TbOk Tryz.prog tb155 := TbOk.ins ok230 (fun_ok ok230 layOk mixed true _ ti155 to155 [] noPl noIv Tryz.func155 rfl Tryz.results155 Tryz.ntmps155 (by kernel_rfl) (by kernel_rfl) Tryz.call155 F155 fun x _ h => (r155 x).trans h)
abbrev ti74 : SPat := ⟨[(0, .sl tg53), (1, .i .i64)], []⟩
abbrev to74 : SPat := ⟨[(4, .i .i64)], []⟩
abbrev ts74_5 : SPat := ⟨[(0, .sl tg53), (1, .i .i64), (5, .i .i64)], []⟩
abbrev ts74_2000000 : SPat := ⟨[(1, .i .i64)], []⟩
def tv74 : Nat → Option SPat := fun k => bif k == 5 then some ts74_5 else bif k == 2000000 then some ts74_2000000 else none
def F74 : List Mth × Int → Option (Int) := fun (a, left) =>
 cndO (decide (IntKind.wrap .i64 (left - (a.length : Int)) < (0 : Int)))
  (some ((-1 : Int)))
  (bindE (whileO (fun (a1, left1, i) =>
    cndO (decide (i < (a1.length : Int)))
     (grdO (decide ((0 : Int) ≤ i)) (atO (a1) i.toNat fun x => bindO (F155 ((x.1, x.2.1, x.2.2.1, x.2.2.2.1, x.2.2.2.2.1, x.2.2.2.2.2.1, x.2.2.2.2.2.2.1, x.2.2.2.2.2.2.2), left1)) fun y =>
     cndO (decide (y < (0 : Int)))
      (some (Sum.inr (Sum.inr (-1 : Int))))
      (some (Sum.inl (a1, y, IntKind.wrap .i64 (i + (1 : Int)))))))
     (some (Sum.inr (Sum.inl left1)))) ((a, IntKind.wrap .i64 (left - (a.length : Int)), (0 : Int)))) fun left1 =>
  some (left1))
theorem r74 (x : List Mth × Int) : funT T tb155 noPl 27 tv74 (bodyOf Tryz.f74) ti74 to74 x = F74 x := by kernel_rfl
def te74 : TEnt := ⟨74, true, [], ti74, to74.Den, F74, resF T [.tmp 4] 27 to74 []⟩
def tb74 : Nat → Option TEnt := insT 74 te74 tb155
theorem ok74 : TbOk Tryz.prog tb74 := TbOk.ins ok155 (fun_ok ok155 layOk mixed true _ ti74 to74 [] noPl tv74 Tryz.func74 rfl Tryz.results74 Tryz.ntmps74 (by kernel_rfl) (by kernel_rfl) Tryz.call74 F74 fun x _ h => (r74 x).trans h)
abbrev ti23 : SPat := ⟨[(0, .agg (pl plC)), (1, .i .i64)], []⟩
abbrev to23 : SPat := ⟨[(4, .i .i64)], []⟩
def F23 : (Cls) × Int → Option (Int) := fun ((a0, a1, a2, a3, a4, a5, a6), left) =>
 bindO (F71 (a0, left)) fun y =>
 cndO (decide (y < (0 : Int)))
  (some ((-1 : Int)))
  (bindO (F72 (a4, y)) fun y1 =>
  cndO (decide (y1 < (0 : Int)))
   (some ((-1 : Int)))
   (bindO (F73 (a5, y1)) fun y2 =>
   cndO (decide (y2 < (0 : Int)))
    (some ((-1 : Int)))
    (bindO (F74 (a6, y2)) fun y3 =>
    cndO (decide (y3 < (0 : Int)))
     (some ((-1 : Int)))
     (some (y3)))))
theorem r23 (x : (Cls) × Int) : funT T tb74 noPl 30 noIv (bodyOf Tryz.f23) ti23 to23 x = F23 x := by kernel_rfl
def te23 : TEnt := ⟨23, true, [], ti23, to23.Den, F23, resF T [.tmp 4] 30 to23 []⟩
def tb23 : Nat → Option TEnt := insT 23 te23 tb74
theorem ok23 : TbOk Tryz.prog tb23 := TbOk.ins ok74 (fun_ok ok74 layOk mixed true _ ti23 to23 [] noPl noIv Tryz.func23 rfl Tryz.results23 Tryz.ntmps23 (by kernel_rfl) (by kernel_rfl) Tryz.call23 F23 fun x _ h => (r23 x).trans h)
abbrev ti156 : SPat := ⟨[(0, .agg (pl [.i .i64, .s, .i .i64, .i .i64]))], []⟩
abbrev to156 : SPat := ⟨[(2, .ptr 2 0)], [.box 2 (pl [.i .i64, .s, .i .i64, .i .i64])]⟩
def F156 : Cst → Option (Cst) := fun (a0, a1, a2, a3) =>
 some ((a0, a1, a2, a3))
theorem r156 (x : Cst) : funT T tb23 noPl 17 noIv (bodyOf Tryz.f156) ti156 to156 x = F156 x := by kernel_rfl
def te156 : TEnt := ⟨156, true, [], ti156, to156.Den, F156, resF T [.cell 2 27] 17 to156 []⟩
def tb156 : Nat → Option TEnt := insT 156 te156 tb23
theorem ok156 : TbOk Tryz.prog tb156 := TbOk.ins ok23 (fun_ok ok23 layOk mixed true _ ti156 to156 [] noPl noIv Tryz.func156 rfl Tryz.results156 Tryz.ntmps156 (by kernel_rfl) (by kernel_rfl) Tryz.call156 F156 fun x _ h => (r156 x).trans h)
abbrev ti75 : SPat := ⟨[(0, .sl tg27)], []⟩
abbrev to75 : SPat := ⟨[(2, .own tg27 true)], []⟩
abbrev ts75_3 : SPat := ⟨[(0, .sl tg27), (3, .own tg27 true), (4, .i .i64)], []⟩
abbrev ts75_2000000 : SPat := ⟨[(3, .own tg27 true)], []⟩
def tv75 : Nat → Option SPat := fun k => bif k == 3 then some ts75_3 else bif k == 2000000 then some ts75_2000000 else none
def F75 : List Cst → Option (List Cst) := fun a =>
 grdO (decide ((a.length : Int) = (a.length : Int)) && decide ((0 : Int) ≤ (a.length : Int)) && decide ((a.length : Int) ≤ (9223372036854775807 : Int)) && decide ((a.length : Int) * (40 : Int) ≤ (140737488355328 : Int))) (bindE (Y := List Cst) (whileO (fun (a1, out, i) =>
   cndO (decide (i < (a1.length : Int)))
    (grdO (decide ((0 : Int) ≤ i)) (atO (a1) i.toNat fun x => bindO (F156 (x.1, x.2.1, x.2.2.1, x.2.2.2)) fun (y, y1, y2, y3) =>
    grdO (decide ((0 : Int) ≤ i) && decide (i < (out.length : Int))) (atO (out) i.toNat fun x1 => some (Sum.inl (a1, List.set out i.toNat (y, y1, y2, y3), IntKind.wrap .i64 (i + (1 : Int)))))))
    (some (Sum.inr (Sum.inl out)))) ((a, List.replicate (Int.toNat (a.length : Int)) ((0 : Int), [], (0 : Int), (0 : Int)), (0 : Int)))) fun out =>
 some (out))
theorem r75 (x : List Cst) : funT T tb156 noPl 23 tv75 (bodyOf Tryz.f75) ti75 to75 x = F75 x := by kernel_rfl
def te75 : TEnt := ⟨75, false, [], ti75, to75.Den, F75, resF T [.tmp 2] 23 to75 []⟩
def tb75 : Nat → Option TEnt := insT 75 te75 tb156
theorem ok75 : TbOk Tryz.prog tb75 := TbOk.ins ok156 (fun_ok ok156 layOk mixed false _ ti75 to75 [] noPl tv75 Tryz.func75 rfl Tryz.results75 Tryz.ntmps75 (by kernel_rfl) (by kernel_rfl) Tryz.call75 F75 fun x _ h => (r75 x).trans h)
abbrev ti76 : SPat := ⟨[(0, .sl (.int .i64))], []⟩
abbrev to76 : SPat := ⟨[(2, .own (.int .i64) true)], []⟩
abbrev ts76_3 : SPat := ⟨[(0, .sl (.int .i64)), (3, .own (.int .i64) true), (4, .i .i64)], []⟩
abbrev ts76_2000000 : SPat := ⟨[(3, .own (.int .i64) true)], []⟩
def tv76 : Nat → Option SPat := fun k => bif k == 3 then some ts76_3 else bif k == 2000000 then some ts76_2000000 else none
def F76 : List Int → Option (List Int) := fun a =>
 grdO (decide ((a.length : Int) = (a.length : Int)) && decide ((0 : Int) ≤ (a.length : Int)) && decide ((a.length : Int) ≤ (9223372036854775807 : Int)) && decide ((a.length : Int) * (8 : Int) ≤ (140737488355328 : Int))) (bindE (Y := List Int) (whileO (fun (a1, out, i) =>
   cndO (decide (i < (a1.length : Int)))
    (grdO (decide ((0 : Int) ≤ i)) (atO (a1) i.toNat fun x => grdO (decide ((0 : Int) ≤ i) && decide (i < (out.length : Int))) (atO (out) i.toNat fun x1 => some (Sum.inl (a1, List.set out i.toNat x, IntKind.wrap .i64 (i + (1 : Int)))))))
    (some (Sum.inr (Sum.inl out)))) ((a, List.replicate (Int.toNat (a.length : Int)) (0 : Int), (0 : Int)))) fun out =>
 some (out))
theorem r76 (x : List Int) : funT T tb75 noPl 22 tv76 (bodyOf Tryz.f76) ti76 to76 x = F76 x := by kernel_rfl
def te76 : TEnt := ⟨76, false, [], ti76, to76.Den, F76, resF T [.tmp 2] 22 to76 []⟩
def tb76 : Nat → Option TEnt := insT 76 te76 tb75
theorem ok76 : TbOk Tryz.prog tb76 := TbOk.ins ok75 (fun_ok ok75 layOk mixed false _ ti76 to76 [] noPl tv76 Tryz.func76 rfl Tryz.results76 Tryz.ntmps76 (by kernel_rfl) (by kernel_rfl) Tryz.call76 F76 fun x _ h => (r76 x).trans h)
abbrev ti157 : SPat := ⟨[(0, .agg (pl [.i .i64, .i .i64, .i .i64]))], []⟩
abbrev to157 : SPat := ⟨[(2, .ptr 2 0)], [.box 2 (pl [.i .i64, .i .i64, .i .i64])]⟩
def F157 : Int × Int × Int → Option (Int × Int × Int) := fun (a0, a1, a2) =>
 some ((a0, a1, a2))
theorem r157 (x : Int × Int × Int) : funT T tb76 noPl 14 noIv (bodyOf Tryz.f157) ti157 to157 x = F157 x := by kernel_rfl
def te157 : TEnt := ⟨157, true, [], ti157, to157.Den, F157, resF T [.cell 2 89] 14 to157 []⟩
def tb157 : Nat → Option TEnt := insT 157 te157 tb76
theorem ok157 : TbOk Tryz.prog tb157 := TbOk.ins ok76 (fun_ok ok76 layOk mixed true _ ti157 to157 [] noPl noIv Tryz.func157 rfl Tryz.results157 Tryz.ntmps157 (by kernel_rfl) (by kernel_rfl) Tryz.call157 F157 fun x _ h => (r157 x).trans h)
abbrev ti77 : SPat := ⟨[(0, .sl tg89)], []⟩
abbrev to77 : SPat := ⟨[(2, .own tg89 true)], []⟩
abbrev ts77_3 : SPat := ⟨[(0, .sl tg89), (3, .own tg89 true), (4, .i .i64)], []⟩
abbrev ts77_2000000 : SPat := ⟨[(3, .own tg89 true)], []⟩
def tv77 : Nat → Option SPat := fun k => bif k == 3 then some ts77_3 else bif k == 2000000 then some ts77_2000000 else none
def F77 : List (Int × Int × Int) → Option (List (Int × Int × Int)) := fun a =>
 grdO (decide ((a.length : Int) = (a.length : Int)) && decide ((0 : Int) ≤ (a.length : Int)) && decide ((a.length : Int) ≤ (9223372036854775807 : Int)) && decide ((a.length : Int) * (24 : Int) ≤ (140737488355328 : Int))) (bindE (Y := List (Int × Int × Int)) (whileO (fun (a1, out, i) =>
   cndO (decide (i < (a1.length : Int)))
    (grdO (decide ((0 : Int) ≤ i)) (atO (a1) i.toNat fun x => bindO (F157 (x.1, x.2.1, x.2.2)) fun (y, y1, y2) =>
    grdO (decide ((0 : Int) ≤ i) && decide (i < (out.length : Int))) (atO (out) i.toNat fun x1 => some (Sum.inl (a1, List.set out i.toNat (y, y1, y2), IntKind.wrap .i64 (i + (1 : Int)))))))
    (some (Sum.inr (Sum.inl out)))) ((a, List.replicate (Int.toNat (a.length : Int)) ((0 : Int), (0 : Int), (0 : Int)), (0 : Int)))) fun out =>
 some (out))
theorem r77 (x : List (Int × Int × Int)) : funT T tb157 noPl 23 tv77 (bodyOf Tryz.f77) ti77 to77 x = F77 x := by kernel_rfl
def te77 : TEnt := ⟨77, false, [], ti77, to77.Den, F77, resF T [.tmp 2] 23 to77 []⟩
def tb77 : Nat → Option TEnt := insT 77 te77 tb157
theorem ok77 : TbOk Tryz.prog tb77 := TbOk.ins ok157 (fun_ok ok157 layOk mixed false _ ti77 to77 [] noPl tv77 Tryz.func77 rfl Tryz.results77 Tryz.ntmps77 (by kernel_rfl) (by kernel_rfl) Tryz.call77 F77 fun x _ h => (r77 x).trans h)
abbrev ti284 : SPat := ⟨[(0, .agg (pl [.i .i64, .i .i64, .i .i64, .i .i64]))], []⟩
abbrev to284 : SPat := ⟨[(2, .ptr 2 0)], [.box 2 (pl [.i .i64, .i .i64, .i .i64, .i .i64])]⟩
def F284 : Int × Int × Int × Int → Option (Int × Int × Int × Int) := fun (a0, a1, a2, a3) =>
 some ((a0, a1, a2, a3))
theorem r284 (x : Int × Int × Int × Int) : funT T tb77 noPl 17 noIv (bodyOf Tryz.f284) ti284 to284 x = F284 x := by kernel_rfl
def te284 : TEnt := ⟨284, true, [], ti284, to284.Den, F284, resF T [.cell 2 147] 17 to284 []⟩
def tb284 : Nat → Option TEnt := insT 284 te284 tb77
theorem ok284 : TbOk Tryz.prog tb284 := TbOk.ins ok77 (fun_ok ok77 layOk mixed true _ ti284 to284 [] noPl noIv Tryz.func284 rfl Tryz.results284 Tryz.ntmps284 (by kernel_rfl) (by kernel_rfl) Tryz.call284 F284 fun x _ h => (r284 x).trans h)
abbrev ti231 : SPat := ⟨[(0, .sl tg147)], []⟩
abbrev to231 : SPat := ⟨[(2, .own tg147 true)], []⟩
abbrev ts231_3 : SPat := ⟨[(0, .sl tg147), (3, .own tg147 true), (4, .i .i64)], []⟩
abbrev ts231_2000000 : SPat := ⟨[(3, .own tg147 true)], []⟩
def tv231 : Nat → Option SPat := fun k => bif k == 3 then some ts231_3 else bif k == 2000000 then some ts231_2000000 else none
def F231 : List (Int × Int × Int × Int) → Option (List (Int × Int × Int × Int)) := fun a =>
 grdO (decide ((a.length : Int) = (a.length : Int)) && decide ((0 : Int) ≤ (a.length : Int)) && decide ((a.length : Int) ≤ (9223372036854775807 : Int)) && decide ((a.length : Int) * (32 : Int) ≤ (140737488355328 : Int))) (bindE (Y := List (Int × Int × Int × Int)) (whileO (fun (a1, out, i) =>
   cndO (decide (i < (a1.length : Int)))
    (grdO (decide ((0 : Int) ≤ i)) (atO (a1) i.toNat fun x => bindO (F284 (x.1, x.2.1, x.2.2.1, x.2.2.2)) fun (y, y1, y2, y3) =>
    grdO (decide ((0 : Int) ≤ i) && decide (i < (out.length : Int))) (atO (out) i.toNat fun x1 => some (Sum.inl (a1, List.set out i.toNat (y, y1, y2, y3), IntKind.wrap .i64 (i + (1 : Int)))))))
    (some (Sum.inr (Sum.inl out)))) ((a, List.replicate (Int.toNat (a.length : Int)) ((0 : Int), (0 : Int), (0 : Int), (0 : Int)), (0 : Int)))) fun out =>
 some (out))
theorem r231 (x : List (Int × Int × Int × Int)) : funT T tb284 noPl 23 tv231 (bodyOf Tryz.f231) ti231 to231 x = F231 x := by kernel_rfl
def te231 : TEnt := ⟨231, false, [], ti231, to231.Den, F231, resF T [.tmp 2] 23 to231 []⟩
def tb231 : Nat → Option TEnt := insT 231 te231 tb284
theorem ok231 : TbOk Tryz.prog tb231 := TbOk.ins ok284 (fun_ok ok284 layOk mixed false _ ti231 to231 [] noPl tv231 Tryz.func231 rfl Tryz.results231 Tryz.ntmps231 (by kernel_rfl) (by kernel_rfl) Tryz.call231 F231 fun x _ h => (r231 x).trans h)
abbrev ti328 : SPat := ⟨[(0, .agg (pl [.i .i64, .i .i64]))], []⟩
abbrev to328 : SPat := ⟨[(2, .ptr 2 0)], [.box 2 (pl [.i .i64, .i .i64])]⟩
def F328 : Int × Int → Option (Int × Int) := fun (a0, a1) =>
 some ((a0, a1))
theorem r328 (x : Int × Int) : funT T tb231 noPl 11 noIv (bodyOf Tryz.f328) ti328 to328 x = F328 x := by kernel_rfl
def te328 : TEnt := ⟨328, true, [], ti328, to328.Den, F328, resF T [.cell 2 184] 11 to328 []⟩
def tb328 : Nat → Option TEnt := insT 328 te328 tb231
theorem ok328 : TbOk Tryz.prog tb328 := TbOk.ins ok231 (fun_ok ok231 layOk mixed true _ ti328 to328 [] noPl noIv Tryz.func328 rfl Tryz.results328 Tryz.ntmps328 (by kernel_rfl) (by kernel_rfl) Tryz.call328 F328 fun x _ h => (r328 x).trans h)
abbrev ti319 : SPat := ⟨[(0, .sl tg184)], []⟩
abbrev to319 : SPat := ⟨[(2, .own tg184 true)], []⟩
abbrev ts319_3 : SPat := ⟨[(0, .sl tg184), (3, .own tg184 true), (4, .i .i64)], []⟩
abbrev ts319_2000000 : SPat := ⟨[(3, .own tg184 true)], []⟩
def tv319 : Nat → Option SPat := fun k => bif k == 3 then some ts319_3 else bif k == 2000000 then some ts319_2000000 else none
def F319 : List (Int × Int) → Option (List (Int × Int)) := fun a =>
 grdO (decide ((a.length : Int) = (a.length : Int)) && decide ((0 : Int) ≤ (a.length : Int)) && decide ((a.length : Int) ≤ (9223372036854775807 : Int)) && decide ((a.length : Int) * (16 : Int) ≤ (140737488355328 : Int))) (bindE (Y := List (Int × Int)) (whileO (fun (a1, out, i) =>
   cndO (decide (i < (a1.length : Int)))
    (grdO (decide ((0 : Int) ≤ i)) (atO (a1) i.toNat fun x => bindO (F328 (x.1, x.2)) fun (y, y1) =>
    grdO (decide ((0 : Int) ≤ i) && decide (i < (out.length : Int))) (atO (out) i.toNat fun x1 => some (Sum.inl (a1, List.set out i.toNat (y, y1), IntKind.wrap .i64 (i + (1 : Int)))))))
    (some (Sum.inr (Sum.inl out)))) ((a, List.replicate (Int.toNat (a.length : Int)) ((0 : Int), (0 : Int)), (0 : Int)))) fun out =>
 some (out))
theorem r319 (x : List (Int × Int)) : funT T tb328 noPl 23 tv319 (bodyOf Tryz.f319) ti319 to319 x = F319 x := by kernel_rfl
def te319 : TEnt := ⟨319, false, [], ti319, to319.Den, F319, resF T [.tmp 2] 23 to319 []⟩
def tb319 : Nat → Option TEnt := insT 319 te319 tb328
theorem ok319 : TbOk Tryz.prog tb319 := TbOk.ins ok328 (fun_ok ok328 layOk mixed false _ ti319 to319 [] noPl tv319 Tryz.func319 rfl Tryz.results319 Tryz.ntmps319 (by kernel_rfl) (by kernel_rfl) Tryz.call319 F319 fun x _ h => (r319 x).trans h)
end Go.Proofs.YtdpapeledldifaaGreat
end
noncomputable section
namespace Go.Proofs.YtdpapeledldifaaGreat
open Go Go.AM Go.TM
set_option maxRecDepth 100000
set_option maxHeartbeats 4000000
abbrev ti285 : SPat := ⟨[(0, .agg (pl [.i .i64, .sl tg184, .sl tg184]))], []⟩
abbrev to285 : SPat := ⟨[(2, .ptr 2 0)], [.box 2 (pl [.i .i64, .own tg184 true, .own tg184 true])]⟩
def F285 : Frm → Option (Frm) := fun (a0, a1, a2) =>
 bindO (F319 a1) fun y =>
 bindO (F319 a2) fun y1 =>
 some ((a0, y, y1))
theorem r285 (x : Frm) : funT T tb319 noPl 16 noIv (bodyOf Tryz.f285) ti285 to285 x = F285 x := by kernel_rfl
def te285 : TEnt := ⟨285, false, [], ti285, to285.Den, F285, resF T [.cell 2 100] 16 to285 []⟩
def tb285 : Nat → Option TEnt := insT 285 te285 tb319
theorem ok285 : TbOk Tryz.prog tb285 := TbOk.ins ok319 (fun_ok ok319 layOk mixed false _ ti285 to285 [] noPl noIv Tryz.func285 rfl Tryz.results285 Tryz.ntmps285 (by kernel_rfl) (by kernel_rfl) Tryz.call285 F285 fun x _ h => (r285 x).trans h)
abbrev ti232 : SPat := ⟨[(0, .sl tg100)], []⟩
abbrev to232 : SPat := ⟨[(2, .own tg100 true)], []⟩
abbrev ts232_3 : SPat := ⟨[(0, .sl tg100), (3, .own tg100 true), (4, .i .i64)], []⟩
abbrev ts232_2000000 : SPat := ⟨[(3, .own tg100 true)], []⟩
def tv232 : Nat → Option SPat := fun k => bif k == 3 then some ts232_3 else bif k == 2000000 then some ts232_2000000 else none
def F232 : List Frm → Option (List Frm) := fun a =>
 grdO (decide ((a.length : Int) = (a.length : Int)) && decide ((0 : Int) ≤ (a.length : Int)) && decide ((a.length : Int) ≤ (9223372036854775807 : Int)) && decide ((a.length : Int) * (56 : Int) ≤ (140737488355328 : Int))) (bindE (Y := List Frm) (whileO (fun (a1, out, i) =>
   cndO (decide (i < (a1.length : Int)))
    (grdO (decide ((0 : Int) ≤ i)) (atO (a1) i.toNat fun x => bindO (F285 (x.1, x.2.1, x.2.2)) fun (y, y1, y2) =>
    grdO (decide ((0 : Int) ≤ i) && decide (i < (out.length : Int))) (atO (out) i.toNat fun x1 => some (Sum.inl (a1, List.set out i.toNat (y, y1, y2), IntKind.wrap .i64 (i + (1 : Int)))))))
    (some (Sum.inr (Sum.inl out)))) ((a, List.replicate (Int.toNat (a.length : Int)) ((0 : Int), [], []), (0 : Int)))) fun out =>
 some (out))
theorem r232 (x : List Frm) : funT T tb285 noPl 23 tv232 (bodyOf Tryz.f232) ti232 to232 x = F232 x := by kernel_rfl
def te232 : TEnt := ⟨232, false, [], ti232, to232.Den, F232, resF T [.tmp 2] 23 to232 []⟩
def tb232 : Nat → Option TEnt := insT 232 te232 tb285
theorem ok232 : TbOk Tryz.prog tb232 := TbOk.ins ok285 (fun_ok ok285 layOk mixed false _ ti232 to232 [] noPl tv232 Tryz.func232 rfl Tryz.results232 Tryz.ntmps232 (by kernel_rfl) (by kernel_rfl) Tryz.call232 F232 fun x _ h => (r232 x).trans h)
abbrev ti158 : SPat := ⟨[(0, .agg (pl plM))], []⟩
abbrev to158 : SPat := ⟨[(2, .ptr 2 0)], [.box 2 (pl plN)]⟩
def F158 : Mth → Option (Mth) := fun (a0, a1, a2, a3, a4, a5, a6, a7) =>
 bindO (F231 a6) fun y =>
 bindO (F232 a7) fun y1 =>
 some ((a0, a1, a2, a3, a4, a5, y, y1))
theorem r158 (x : Mth) : funT T tb232 noPl 31 noIv (bodyOf Tryz.f158) ti158 to158 x = F158 x := by kernel_rfl
def te158 : TEnt := ⟨158, false, [], ti158, to158.Den, F158, resF T [.cell 2 53] 31 to158 []⟩
def tb158 : Nat → Option TEnt := insT 158 te158 tb232
theorem ok158 : TbOk Tryz.prog tb158 := TbOk.ins ok232 (fun_ok ok232 layOk mixed false _ ti158 to158 [] noPl noIv Tryz.func158 rfl Tryz.results158 Tryz.ntmps158 (by kernel_rfl) (by kernel_rfl) Tryz.call158 F158 fun x _ h => (r158 x).trans h)
abbrev ti78 : SPat := ⟨[(0, .sl tg53)], []⟩
abbrev to78 : SPat := ⟨[(2, .own tg53 true)], []⟩
abbrev ts78_3 : SPat := ⟨[(0, .sl tg53), (3, .own tg53 true), (4, .i .i64)], []⟩
abbrev ts78_2000000 : SPat := ⟨[(3, .own tg53 true)], []⟩
def tv78 : Nat → Option SPat := fun k => bif k == 3 then some ts78_3 else bif k == 2000000 then some ts78_2000000 else none
def F78 : List Mth → Option (List Mth) := fun a =>
 grdO (decide ((a.length : Int) = (a.length : Int)) && decide ((0 : Int) ≤ (a.length : Int)) && decide ((a.length : Int) ≤ (9223372036854775807 : Int)) && decide ((a.length : Int) * (104 : Int) ≤ (140737488355328 : Int))) (bindE (Y := List Mth) (whileO (fun (a1, out, i) =>
   cndO (decide (i < (a1.length : Int)))
    (grdO (decide ((0 : Int) ≤ i)) (atO (a1) i.toNat fun x => bindO (F158 (x.1, x.2.1, x.2.2.1, x.2.2.2.1, x.2.2.2.2.1, x.2.2.2.2.2.1, x.2.2.2.2.2.2.1, x.2.2.2.2.2.2.2)) fun (y, y1, y2, y3, y4, y5, x1, x2) =>
    grdO (decide ((0 : Int) ≤ i) && decide (i < (out.length : Int))) (atO (out) i.toNat fun x3 => some (Sum.inl (a1, List.set out i.toNat (y, y1, y2, y3, y4, y5, x1, x2), IntKind.wrap .i64 (i + (1 : Int)))))))
    (some (Sum.inr (Sum.inl out)))) ((a, List.replicate (Int.toNat (a.length : Int)) ((0 : Int), (0 : Int), (0 : Int), (0 : Int), (0 : Int), [], [], []), (0 : Int)))) fun out =>
 some (out))
theorem r78 (x : List Mth) : funT T tb158 noPl 23 tv78 (bodyOf Tryz.f78) ti78 to78 x = F78 x := by kernel_rfl
def te78 : TEnt := ⟨78, false, [], ti78, to78.Den, F78, resF T [.tmp 2] 23 to78 []⟩
def tb78 : Nat → Option TEnt := insT 78 te78 tb158
theorem ok78 : TbOk Tryz.prog tb78 := TbOk.ins ok158 (fun_ok ok158 layOk mixed false _ ti78 to78 [] noPl tv78 Tryz.func78 rfl Tryz.results78 Tryz.ntmps78 (by kernel_rfl) (by kernel_rfl) Tryz.call78 F78 fun x _ h => (r78 x).trans h)
abbrev ti25 : SPat := ⟨[(0, .agg (pl plC))], []⟩
abbrev to25 : SPat := ⟨[(2, .ptr 2 0)], [.box 2 (pl plD)]⟩
def F25 : Cls → Option (Cls) := fun (a0, a1, a2, a3, a4, a5, a6) =>
 bindO (F75 a0) fun y =>
 bindO (F76 a4) fun y1 =>
 bindO (F77 a5) fun y2 =>
 bindO (F78 a6) fun y3 =>
 some ((y, a1, a2, a3, y1, y2, y3))
theorem r25 (x : Cls) : funT T tb78 noPl 30 noIv (bodyOf Tryz.f25) ti25 to25 x = F25 x := by kernel_rfl
def te25 : TEnt := ⟨25, false, [], ti25, to25.Den, F25, resF T [.cell 2 34] 30 to25 []⟩
def tb25 : Nat → Option TEnt := insT 25 te25 tb78
theorem ok25 : TbOk Tryz.prog tb25 := TbOk.ins ok78 (fun_ok ok78 layOk mixed false _ ti25 to25 [] noPl noIv Tryz.func25 rfl Tryz.results25 Tryz.ntmps25 (by kernel_rfl) (by kernel_rfl) Tryz.call25 F25 fun x _ h => (r25 x).trans h)
abbrev ti69 : SPat := ⟨[(0, .agg (pl plC))], []⟩
abbrev to69 : SPat := ⟨[(2, .b)], []⟩
def F69 : Cls → Option (Bool) := fun (c0, c1, c2, c3, c4, c5, c6) =>
 cndO (decide ((c0.length : Int) ≤ (60 : Int)))
  (cndO (decide ((c4.length : Int) ≤ (3 : Int)))
   (cndO (decide ((c5.length : Int) ≤ (5 : Int)))
    (some (decide ((c6.length : Int) ≤ (6 : Int))))
    (some (false)))
   (some (false)))
  (some (false))
theorem r69 (x : Cls) : funT T tb25 noPl 25 noIv (bodyOf Tryz.f69) ti69 to69 x = F69 x := by kernel_rfl
def te69 : TEnt := ⟨69, true, [], ti69, to69.Den, F69, resF T [.tmp 2] 25 to69 []⟩
def tb69 : Nat → Option TEnt := insT 69 te69 tb25
theorem ok69 : TbOk Tryz.prog tb69 := TbOk.ins ok25 (fun_ok ok25 layOk mixed true _ ti69 to69 [] noPl noIv Tryz.func69 rfl Tryz.results69 Tryz.ntmps69 (by kernel_rfl) (by kernel_rfl) Tryz.call69 F69 fun x _ h => (r69 x).trans h)
abbrev ti134 : SPat := ⟨[(0, .i .i64)], []⟩
abbrev to134 : SPat := ⟨[(2, .s)], []⟩
def F134 : Int → Option (List UInt8) := fun n =>
 grdO (decide ((0 : Int) ≤ IntKind.wrap .u8 n) && decide (IntKind.wrap .u8 n ≤ (255 : Int))) (some ([UInt8.ofNat (Int.toNat (IntKind.wrap .u8 n))]))
theorem r134 (x : Int) : funT T tb69 noPl 7 noIv (bodyOf Tryz.f134) ti134 to134 x = F134 x := by kernel_rfl
def te134 : TEnt := ⟨134, true, [], ti134, to134.Den, F134, resF T [.tmp 2] 7 to134 []⟩
def tb134 : Nat → Option TEnt := insT 134 te134 tb69
theorem ok134 : TbOk Tryz.prog tb134 := TbOk.ins ok69 (fun_ok ok69 layOk mixed true _ ti134 to134 [] noPl noIv Tryz.func134 rfl Tryz.results134 Tryz.ntmps134 (by kernel_rfl) (by kernel_rfl) Tryz.call134 F134 fun x _ h => (r134 x).trans h)
abbrev ti136 : SPat := ⟨[(0, .i .i64)], []⟩
abbrev to136 : SPat := ⟨[(2, .s)], []⟩
def F136 : Int → Option (List UInt8) := fun n =>
 grdO (decide ((0 : Int) ≤ IntKind.wrap .u8 (IntKind.wrap .i64 (Int.tdiv n (256 : Int)))) && decide (IntKind.wrap .u8 (IntKind.wrap .i64 (Int.tdiv n (256 : Int))) ≤ (255 : Int))) (grdO (decide ((0 : Int) ≤ IntKind.wrap .u8 (Int.tmod n (256 : Int))) && decide (IntKind.wrap .u8 (Int.tmod n (256 : Int)) ≤ (255 : Int))) (some ([UInt8.ofNat (Int.toNat (IntKind.wrap .u8 (IntKind.wrap .i64 (Int.tdiv n (256 : Int))))), UInt8.ofNat (Int.toNat (IntKind.wrap .u8 (Int.tmod n (256 : Int))))])))
theorem r136 (x : Int) : funT T tb134 noPl 11 noIv (bodyOf Tryz.f136) ti136 to136 x = F136 x := by kernel_rfl
def te136 : TEnt := ⟨136, true, [], ti136, to136.Den, F136, resF T [.tmp 2] 11 to136 []⟩
def tb136 : Nat → Option TEnt := insT 136 te136 tb134
theorem ok136 : TbOk Tryz.prog tb136 := TbOk.ins ok134 (fun_ok ok134 layOk mixed true _ ti136 to136 [] noPl noIv Tryz.func136 rfl Tryz.results136 Tryz.ntmps136 (by kernel_rfl) (by kernel_rfl) Tryz.call136 F136 fun x _ h => (r136 x).trans h)
abbrev ti135 : SPat := ⟨[(0, .agg (pl [.i .i64, .s, .i .i64, .i .i64]))], []⟩
abbrev to135 : SPat := ⟨[(2, .s)], []⟩
def tp135 : Nat → List Nat × Plan := fun id => bif id == 3 then ([0, 1, 3, 4, 5, 8, 9], (.br 2 [1, 0] [3, 4, 5, 8, 9] [] (.br 6 [5, 4, 3, 2, 1, 0] [8, 9] [7, 10] (.br 11 [10, 9, 8, 7, 6, 5, 4, 3, 2, 1, 0] [] [] .fin .fin) .fin) .fin)) else bif id == 5 then ([0, 1, 3, 4], (.br 2 [1, 0] [3, 4] [] (.br 5 [4, 3, 2, 1, 0] [] [6] (.br 7 [6, 5, 4, 3, 2, 1, 0] [] [] .fin .fin) .fin) .fin)) else bif id == 6 then ([0, 1, 3, 4, 7, 8], (.br 2 [1, 0] [3, 4, 7, 8] [] (.br 5 [4, 3, 2, 1, 0] [7, 8] [6] (.br 9 [8, 7, 5, 4, 3, 2, 1, 0] [6] [10] (.br 11 [10, 9, 8, 7, 6, 5, 4, 3, 2, 1, 0] [] [] .fin .fin) .fin) .fin) .fin)) else ([], .fin)
def F135 : Cst → Option (List UInt8) := fun (c0, c1, c2, c3) =>
 cndO (decide (c0 = (1 : Int)))
  (bindO (F134 c0) fun y =>
  seqU (seqU (grdO (decide (c1 = c1)) (some (()))) (seqU (grdO (decide ((c1.length : Int) = (c1.length : Int))) (some (()))) (seqU (grdO (decide (c1 = c1)) (some (()))) (some (()))))) (bindO (F134 (c1.length : Int)) fun y1 =>
  seqU (seqU (grdO (decide (c1 = c1)) (some (()))) (some (()))) (grdO (decide (List.length y + List.length y1 ≤ (9223372036854775807 : Nat))) (grdO (decide (List.length (y ++ y1) + List.length c1 ≤ (9223372036854775807 : Nat))) (some (y ++ y1 ++ c1))))))
  (cndO (decide (c0 = (2 : Int)))
   (bindO (F134 c0) fun y =>
   seqU (seqU (grdO (decide (c2 = c2)) (some (()))) (some (()))) (bindO (F136 c2) fun y1 =>
   grdO (decide (List.length y + List.length y1 ≤ (9223372036854775807 : Nat))) (some (y ++ y1))))
   (bindO (F134 c0) fun y =>
   seqU (seqU (grdO (decide (c2 = c2)) (some (()))) (seqU (grdO (decide (c3 = c3)) (some (()))) (some (())))) (bindO (F136 c2) fun y1 =>
   seqU (seqU (grdO (decide (c3 = c3)) (some (()))) (some (()))) (grdO (decide (List.length y + List.length y1 ≤ (9223372036854775807 : Nat))) (bindO (F136 c3) fun y2 =>
   seqU (seqU (grdO (decide (List.length y + List.length y1 ≤ (9223372036854775807 : Nat))) (grdO (decide (y ++ y1 = y ++ y1)) (some (())))) (some (()))) (grdO (decide (List.length (y ++ y1) + List.length y2 ≤ (9223372036854775807 : Nat))) (some (y ++ y1 ++ y2))))))))
theorem r135 (x : Cst) : funT T tb136 tp135 38 noIv (bodyOf Tryz.f135) ti135 to135 x = F135 x := by kernel_rfl
def te135 : TEnt := ⟨135, true, [], ti135, to135.Den, F135, resF T [.tmp 2] 38 to135 []⟩
def tb135 : Nat → Option TEnt := insT 135 te135 tb136
theorem ok135 : TbOk Tryz.prog tb135 := TbOk.ins ok136 (fun_ok ok136 layOk mixed true _ ti135 to135 [] tp135 noIv Tryz.func135 rfl Tryz.results135 Tryz.ntmps135 (by kernel_rfl) (by kernel_rfl) Tryz.call135 F135 fun x _ h => (r135 x).trans h)
abbrev ti216 : SPat := ⟨[(0, .sl tg184)], []⟩
abbrev to216 : SPat := ⟨[(2, .s)], []⟩
abbrev ts216_3 : SPat := ⟨[(0, .sl tg184), (3, .s), (4, .i .i64)], []⟩
abbrev ts216_2000000 : SPat := ⟨[(3, .s)], []⟩
abbrev ts216_2000001 : SPat := ⟨[(0, .sl tg184), (3, .s), (4, .i .i64)], []⟩
def tv216 : Nat → Option SPat := fun k => bif k == 3 then some ts216_3 else bif k == 2000000 then some ts216_2000000 else bif k == 2000001 then some ts216_2000001 else none
def F216 : List (Int × Int) → Option (List UInt8) := fun list =>
 bindO (F134 (list.length : Int)) fun y =>
 bindE (Y := List UInt8) (whileO (fun (list1, out, i) =>
   cndO (decide (i < (list1.length : Int)))
    (bindE (Y := List (Int × Int) × List UInt8 × Int) (grdO (decide ((0 : Int) ≤ i)) (atO (list1) i.toNat fun x => bindO (F134 (x.1)) fun y1 =>
     grdO (decide (List.length out + List.length y1 ≤ (9223372036854775807 : Nat))) (grdO (decide ((0 : Int) ≤ i)) (atO (list1) i.toNat fun x1 => cndO (decide (x1.1 = (3 : Int)))
      (grdO (decide ((0 : Int) ≤ i)) (atO (list1) i.toNat fun x2 => bindO (F136 (x2.2)) fun y2 =>
      grdO (decide (List.length (out ++ y1) + List.length y2 ≤ (9223372036854775807 : Nat))) (some (Sum.inl (list1, out ++ y1 ++ y2, i)))))
      (some (Sum.inl (list1, out ++ y1, i))))))) fun (list2, out1, i1) =>
    some (Sum.inl (list2, out1, IntKind.wrap .i64 (i1 + (1 : Int)))))
    (some (Sum.inr (Sum.inl out)))) ((list, y, (0 : Int)))) fun out =>
 some (out)
theorem r216 (x : List (Int × Int)) : funT T tb135 noPl 37 tv216 (bodyOf Tryz.f216) ti216 to216 x = F216 x := by kernel_rfl
def te216 : TEnt := ⟨216, true, [], ti216, to216.Den, F216, resF T [.tmp 2] 37 to216 []⟩
def tb216 : Nat → Option TEnt := insT 216 te216 tb135
theorem ok216 : TbOk Tryz.prog tb216 := TbOk.ins ok135 (fun_ok ok135 layOk mixed true _ ti216 to216 [] noPl tv216 Tryz.func216 rfl Tryz.results216 Tryz.ntmps216 (by kernel_rfl) (by kernel_rfl) Tryz.call216 F216 fun x _ h => (r216 x).trans h)
abbrev ti137 : SPat := ⟨[(0, .agg (pl plM))], []⟩
abbrev to137 : SPat := ⟨[(2, .s)], []⟩
abbrev ts137_6 : SPat := ⟨[(1, .ptr 1 0), (3, .s), (4, .i .i64)], [.box 1 (pl plM)]⟩
abbrev ts137_12 : SPat := ⟨[(1, .ptr 1 0), (3, .s), (6, .i .i64)], [.box 1 (pl plM)]⟩
abbrev ts137_2000000 : SPat := ⟨[(1, .ptr 1 0), (3, .s)], [.box 1 (pl plM)]⟩
abbrev ts137_2000002 : SPat := ⟨[(3, .s)], []⟩
def tv137 : Nat → Option SPat := fun k => bif k == 6 then some ts137_6 else bif k == 12 then some ts137_12 else bif k == 2000000 then some ts137_2000000 else bif k == 2000002 then some ts137_2000002 else none
def tp137 : Nat → List Nat × Plan := fun id => bif id == 1 then ([0, 1, 3, 4, 7, 8], (.br 2 [1, 0] [3, 4, 7, 8] [] (.br 5 [4, 3, 2, 1, 0] [7, 8] [6] (.br 9 [8, 7, 5, 4, 3, 2, 1, 0] [6] [10] (.br 11 [10, 9, 8, 7, 6, 5, 4, 3, 2, 1, 0] [] [] .fin .fin) .fin) .fin) .fin)) else bif id == 4 then ([0, 1, 2, 5, 6, 9, 10, 11, 14, 15, 17, 18, 19], (.br 3 [2, 1] [0, 5, 6, 9, 10, 11, 14, 15, 17, 18, 19] [4] (.br 7 [6, 5, 3, 2, 1] [0, 9, 10, 11, 14, 15, 17, 18, 19, 4] [8] (.br 12 [11, 10, 9, 7, 6, 5, 3, 2, 1] [0, 14, 15, 17, 18, 19, 4, 8] [13, 16] (.br 20 [19, 18, 17, 12, 11, 10, 9, 7, 6, 5, 3, 2, 1] [0, 14, 15, 4, 8, 13, 16] [21] (.br 22 [21, 20, 19, 18, 17, 16, 15, 14, 13, 12, 11, 10, 9, 8, 7, 6, 5, 4, 3, 2, 1, 0] [] [] .fin .fin) .fin) .fin) .fin) .fin)) else bif id == 9 then ([0, 1, 2, 5, 6, 9, 10, 13, 14], (.br 3 [2, 1] [0, 5, 6, 9, 10, 13, 14] [4] (.br 7 [6, 5, 3, 2, 1] [0, 9, 10, 13, 14, 4] [8] (.br 11 [10, 9, 7, 6, 5, 3, 2, 1] [0, 13, 14, 4, 8] [12] (.br 15 [14, 13, 11, 10, 9, 7, 6, 5, 3, 2, 1] [0, 4, 8, 12] [16] (.br 17 [16, 15, 14, 13, 12, 11, 10, 9, 8, 7, 6, 5, 4, 3, 2, 1, 0] [] [] .fin .fin) .fin) .fin) .fin) .fin)) else bif id == 14 then ([0, 1, 2, 3, 4, 5, 6, 9, 10, 11, 12, 13, 14, 17, 18, 19, 20, 21, 22], (.br 7 [6, 5, 4, 3, 2, 1] [0, 9, 10, 11, 12, 13, 14, 17, 18, 19, 20, 21, 22] [8] (.br 15 [14, 13, 12, 11, 10, 9, 7, 6, 5, 4, 3, 2, 1] [0, 17, 18, 19, 20, 21, 22, 8] [16] (.br 23 [22, 21, 20, 19, 18, 17, 15, 14, 13, 12, 11, 10, 9, 7, 6, 5, 4, 3, 2, 1] [0, 8, 16] [24] (.br 25 [24, 23, 22, 21, 20, 19, 18, 17, 16, 15, 14, 13, 12, 11, 10, 9, 8, 7, 6, 5, 4, 3, 2, 1, 0] [] [] .fin .fin) .fin) .fin) .fin)) else ([], .fin)
def F137 : Mth → Option (List UInt8) := fun (app0, app1, app2, app3, app4, app5, app6, app7) =>
 bindO (F134 app0) fun y =>
 seqU (seqU (grdO (decide (app1 = app1)) (some (()))) (seqU (grdO (decide (app2 = app2)) (some (()))) (some (())))) (bindO (F136 app1) fun y1 =>
 seqU (seqU (grdO (decide (app2 = app2)) (some (()))) (some (()))) (grdO (decide (List.length y + List.length y1 ≤ (9223372036854775807 : Nat))) (bindO (F136 app2) fun y2 =>
 seqU (seqU (grdO (decide (List.length y + List.length y1 ≤ (9223372036854775807 : Nat))) (grdO (decide (y ++ y1 = y ++ y1)) (some (())))) (some (()))) (grdO (decide (List.length (y ++ y1) + List.length y2 ≤ (9223372036854775807 : Nat))) (cndO (decide (IntKind.wrap .i64 (Int.tdiv (Int.tmod app0 (16 : Int)) (8 : Int)) = (1 : Int)))
  (some (y ++ y1 ++ y2))
  (bindO (F134 app3) fun y3 =>
  seqU (seqU (grdO (decide (y ++ y1 ++ y2 = y ++ y1 ++ y2)) (some (()))) (seqU (grdO (decide (app4 = app4)) (some (()))) (seqU (grdO (decide (app5 = app5)) (some (()))) (seqU (grdO (decide ((app5.length : Int) = (app5.length : Int))) (some (()))) (seqU (grdO (decide (app5 = app5)) (some (()))) (seqU (grdO (decide (app6 = app6)) (some (()))) (seqU (grdO (decide ((app6.length : Int) = (app6.length : Int))) (some (()))) (some (()))))))))) (grdO (decide (List.length (y ++ y1 ++ y2) + List.length y3 ≤ (9223372036854775807 : Nat))) (bindO (F134 app4) fun y4 =>
  seqU (seqU (grdO (decide (y ++ y1 ++ y2 = y ++ y1 ++ y2)) (some (()))) (seqU (grdO (decide (app5 = app5)) (some (()))) (seqU (grdO (decide ((app5.length : Int) = (app5.length : Int))) (some (()))) (seqU (grdO (decide (app5 = app5)) (some (()))) (seqU (grdO (decide (app6 = app6)) (some (()))) (seqU (grdO (decide ((app6.length : Int) = (app6.length : Int))) (some (()))) (seqU (grdO (decide (List.length (y ++ y1 ++ y2) + List.length y3 ≤ (9223372036854775807 : Nat))) (grdO (decide (y ++ y1 ++ y2 ++ y3 = y ++ y1 ++ y2 ++ y3)) (some (())))) (some (()))))))))) (grdO (decide (List.length (y ++ y1 ++ y2 ++ y3) + List.length y4 ≤ (9223372036854775807 : Nat))) (bindO (F136 (app5.length : Int)) fun y5 =>
  seqU (seqU (grdO (decide (y ++ y1 ++ y2 = y ++ y1 ++ y2)) (some (()))) (seqU (grdO (decide (app5 = app5)) (some (()))) (seqU (grdO (decide (app6 = app6)) (some (()))) (seqU (grdO (decide ((app6.length : Int) = (app6.length : Int))) (some (()))) (seqU (grdO (decide (List.length (y ++ y1 ++ y2) + List.length y3 ≤ (9223372036854775807 : Nat))) (grdO (decide (y ++ y1 ++ y2 ++ y3 = y ++ y1 ++ y2 ++ y3)) (some (())))) (seqU (grdO (decide (List.length (y ++ y1 ++ y2 ++ y3) + List.length y4 ≤ (9223372036854775807 : Nat))) (grdO (decide (y ++ y1 ++ y2 ++ y3 ++ y4 = y ++ y1 ++ y2 ++ y3 ++ y4)) (some (())))) (some (())))))))) (grdO (decide (List.length (y ++ y1 ++ y2 ++ y3 ++ y4) + List.length y5 ≤ (9223372036854775807 : Nat))) (grdO (decide (List.length (y ++ y1 ++ y2 ++ y3 ++ y4 ++ y5) + List.length app5 ≤ (9223372036854775807 : Nat))) (bindO (F134 (app6.length : Int)) fun y6 =>
  seqU (seqU (grdO (decide (y ++ y1 ++ y2 = y ++ y1 ++ y2)) (some (()))) (seqU (grdO (decide (app5 = app5)) (some (()))) (seqU (grdO (decide (List.length (y ++ y1 ++ y2) + List.length y3 ≤ (9223372036854775807 : Nat))) (grdO (decide (y ++ y1 ++ y2 ++ y3 = y ++ y1 ++ y2 ++ y3)) (some (())))) (seqU (grdO (decide (List.length (y ++ y1 ++ y2 ++ y3) + List.length y4 ≤ (9223372036854775807 : Nat))) (grdO (decide (y ++ y1 ++ y2 ++ y3 ++ y4 = y ++ y1 ++ y2 ++ y3 ++ y4)) (some (())))) (seqU (grdO (decide (List.length (y ++ y1 ++ y2 ++ y3 ++ y4) + List.length y5 ≤ (9223372036854775807 : Nat))) (grdO (decide (y ++ y1 ++ y2 ++ y3 ++ y4 ++ y5 = y ++ y1 ++ y2 ++ y3 ++ y4 ++ y5)) (some (())))) (seqU (grdO (decide (List.length (y ++ y1 ++ y2 ++ y3 ++ y4 ++ y5) + List.length app5 ≤ (9223372036854775807 : Nat))) (grdO (decide (y ++ y1 ++ y2 ++ y3 ++ y4 ++ y5 ++ app5 = y ++ y1 ++ y2 ++ y3 ++ y4 ++ y5 ++ app5)) (some (())))) (some (())))))))) (grdO (decide (List.length (y ++ y1 ++ y2 ++ y3 ++ y4 ++ y5 ++ app5) + List.length y6 ≤ (9223372036854775807 : Nat))) (bindE (Y := List UInt8 × Mth) (whileO (fun (v3, v4, o0, o1, o2, o3, o4, o5, o6, o7) =>
    cndO (decide (v4 < (o6.length : Int)))
     (grdO (decide ((0 : Int) ≤ v4)) (atO (o6) v4.toNat fun x => bindO (F136 (x.1)) fun y7 =>
     seqU (seqU (grdO (decide (v3 = v3)) (some (()))) (seqU (grdO (decide (x.2.1 = x.2.1)) (some (()))) (seqU (grdO (decide (x.2.2.1 = x.2.2.1)) (some (()))) (seqU (grdO (decide (x.2.2.2 = x.2.2.2)) (some (()))) (some (())))))) (grdO (decide (List.length v3 + List.length y7 ≤ (9223372036854775807 : Nat))) (bindO (F136 (x.2.1)) fun y8 =>
     seqU (seqU (grdO (decide (v3 = v3)) (some (()))) (seqU (grdO (decide (x.2.2.1 = x.2.2.1)) (some (()))) (seqU (grdO (decide (x.2.2.2 = x.2.2.2)) (some (()))) (seqU (grdO (decide (List.length v3 + List.length y7 ≤ (9223372036854775807 : Nat))) (grdO (decide (v3 ++ y7 = v3 ++ y7)) (some (())))) (some (())))))) (grdO (decide (List.length (v3 ++ y7) + List.length y8 ≤ (9223372036854775807 : Nat))) (bindO (F136 (x.2.2.1)) fun y9 =>
     seqU (seqU (grdO (decide (v3 = v3)) (some (()))) (seqU (grdO (decide (x.2.2.2 = x.2.2.2)) (some (()))) (seqU (grdO (decide (List.length v3 + List.length y7 ≤ (9223372036854775807 : Nat))) (grdO (decide (v3 ++ y7 = v3 ++ y7)) (some (())))) (seqU (grdO (decide (List.length (v3 ++ y7) + List.length y8 ≤ (9223372036854775807 : Nat))) (grdO (decide (v3 ++ y7 ++ y8 = v3 ++ y7 ++ y8)) (some (())))) (some (())))))) (grdO (decide (List.length (v3 ++ y7 ++ y8) + List.length y9 ≤ (9223372036854775807 : Nat))) (bindO (F136 (x.2.2.2)) fun y10 =>
     seqU (seqU (grdO (decide (v3 = v3)) (some (()))) (seqU (grdO (decide (List.length v3 + List.length y7 ≤ (9223372036854775807 : Nat))) (grdO (decide (v3 ++ y7 = v3 ++ y7)) (some (())))) (seqU (grdO (decide (List.length (v3 ++ y7) + List.length y8 ≤ (9223372036854775807 : Nat))) (grdO (decide (v3 ++ y7 ++ y8 = v3 ++ y7 ++ y8)) (some (())))) (seqU (grdO (decide (List.length (v3 ++ y7 ++ y8) + List.length y9 ≤ (9223372036854775807 : Nat))) (grdO (decide (v3 ++ y7 ++ y8 ++ y9 = v3 ++ y7 ++ y8 ++ y9)) (some (())))) (some (())))))) (grdO (decide (List.length (v3 ++ y7 ++ y8 ++ y9) + List.length y10 ≤ (9223372036854775807 : Nat))) (some (Sum.inl (v3 ++ y7 ++ y8 ++ y9 ++ y10, IntKind.wrap .i64 (v4 + (1 : Int)), o0, o1, o2, o3, o4, o5, o6, o7))))))))))))
     (some (Sum.inr (Sum.inl (v3, o0, o1, o2, o3, o4, o5, o6, o7))))) ((y ++ y1 ++ y2 ++ y3 ++ y4 ++ y5 ++ app5 ++ y6, (0 : Int), app0, app1, app2, app3, app4, app5, app6, app7))) fun (v3, o0, o1, o2, o3, o4, o5, o6, o7) =>
  bindO (F134 (o7.length : Int)) fun y7 =>
  grdO (decide (List.length v3 + List.length y7 ≤ (9223372036854775807 : Nat))) (bindE (Y := List UInt8) (whileO (fun (v31, v6, o01, o11, o21, o31, o41, o51, o61, o71) =>
    cndO (decide (v6 < (o71.length : Int)))
     (grdO (decide ((0 : Int) ≤ v6)) (atO (o71) v6.toNat fun x => grdO (decide ((0 : Int) ≤ v6)) (atO (o71) v6.toNat fun x1 => grdO (decide ((0 : Int) ≤ v6)) (atO (o71) v6.toNat fun x2 => bindO (F136 (x.1)) fun y8 =>
     seqU (seqU (grdO (decide (v31 = v31)) (some (()))) (seqU (grdO (decide (o71 = o71)) (some (()))) (seqU (grdO (decide (v6 = v6)) (some (()))) (seqU (grdO (decide ((0 : Int) ≤ v6)) (atO (o71) v6.toNat fun x3 => grdO (decide (x3.1 = x1.1) && (decide (x3.2.1 = x1.2.1) && (decide (x3.2.2 = x1.2.2) && true))) (some (())))) (seqU (grdO (decide (x1.2.1 = x1.2.1) && (decide (x1.2.2 = x1.2.2) && true)) (some (()))) (seqU (grdO (decide (x1.2.1 = x1.2.1)) (some (()))) (seqU (grdO (decide (o71 = o71)) (some (()))) (seqU (grdO (decide (v6 = v6)) (some (()))) (seqU (grdO (decide ((0 : Int) ≤ v6)) (atO (o71) v6.toNat fun x3 => grdO (decide (x3.1 = x2.1) && (decide (x3.2.1 = x2.2.1) && (decide (x3.2.2 = x2.2.2) && true))) (some (())))) (seqU (grdO (decide (x2.2.2 = x2.2.2) && true) (some (()))) (seqU (grdO (decide (x2.2.2 = x2.2.2)) (some (()))) (some (()))))))))))))) (grdO (decide (List.length v31 + List.length y8 ≤ (9223372036854775807 : Nat))) (bindO (F216 (x1.2.1)) fun y9 =>
     seqU (seqU (grdO (decide (v31 = v31)) (some (()))) (seqU (grdO (decide (o71 = o71)) (some (()))) (seqU (grdO (decide (v6 = v6)) (some (()))) (seqU (grdO (decide ((0 : Int) ≤ v6)) (atO (o71) v6.toNat fun x3 => grdO (decide (x3.1 = x2.1) && (decide (x3.2.1 = x2.2.1) && (decide (x3.2.2 = x2.2.2) && true))) (some (())))) (seqU (grdO (decide (x2.2.2 = x2.2.2) && true) (some (()))) (seqU (grdO (decide (x2.2.2 = x2.2.2)) (some (()))) (seqU (grdO (decide (List.length v31 + List.length y8 ≤ (9223372036854775807 : Nat))) (grdO (decide (v31 ++ y8 = v31 ++ y8)) (some (())))) (some (()))))))))) (grdO (decide (List.length (v31 ++ y8) + List.length y9 ≤ (9223372036854775807 : Nat))) (bindO (F216 (x2.2.2)) fun y10 =>
     seqU (seqU (grdO (decide (v31 = v31)) (some (()))) (seqU (grdO (decide (List.length v31 + List.length y8 ≤ (9223372036854775807 : Nat))) (grdO (decide (v31 ++ y8 = v31 ++ y8)) (some (())))) (seqU (grdO (decide (List.length (v31 ++ y8) + List.length y9 ≤ (9223372036854775807 : Nat))) (grdO (decide (v31 ++ y8 ++ y9 = v31 ++ y8 ++ y9)) (some (())))) (some (()))))) (grdO (decide (List.length (v31 ++ y8 ++ y9) + List.length y10 ≤ (9223372036854775807 : Nat))) (some (Sum.inl (v31 ++ y8 ++ y9 ++ y10, IntKind.wrap .i64 (v6 + (1 : Int)), o01, o11, o21, o31, o41, o51, o61, o71))))))))))))
     (some (Sum.inr (Sum.inl v31)))) ((v3 ++ y7, (0 : Int), o0, o1, o2, o3, o4, o5, o6, o7))) fun v31 =>
  some (v31)))))))))))))))))
theorem r137 (x : Mth) : funT T tb216 tp137 114 tv137 (bodyOf Tryz.f137) ti137 to137 x = F137 x := by kernel_rfl
def te137 : TEnt := ⟨137, true, [], ti137, to137.Den, F137, resF T [.tmp 2] 114 to137 []⟩
def tb137 : Nat → Option TEnt := insT 137 te137 tb216
theorem ok137 : TbOk Tryz.prog tb137 := TbOk.ins ok216 (fun_ok ok216 layOk mixed true _ ti137 to137 [] tp137 tv137 Tryz.func137 rfl Tryz.results137 Tryz.ntmps137 (by kernel_rfl) (by kernel_rfl) Tryz.call137 F137 fun x _ h => (r137 x).trans h)
abbrev ti55 : SPat := ⟨[(0, .agg (pl plC))], []⟩
abbrev to55 : SPat := ⟨[(2, .s)], []⟩
abbrev ts55_3 : SPat := ⟨[(1, .ptr 1 0), (3, .s), (4, .i .i64)], [.box 1 (pl plC)]⟩
abbrev ts55_8 : SPat := ⟨[(1, .ptr 1 0), (3, .s), (5, .i .i64)], [.box 1 (pl plC)]⟩
abbrev ts55_13 : SPat := ⟨[(1, .ptr 1 0), (3, .s), (6, .i .i64)], [.box 1 (pl plC)]⟩
abbrev ts55_18 : SPat := ⟨[(1, .ptr 1 0), (3, .s), (7, .i .i64)], [.box 1 (pl plC)]⟩
abbrev ts55_2000000 : SPat := ⟨[(1, .ptr 1 0), (3, .s)], [.box 1 (pl plC)]⟩
abbrev ts55_2000002 : SPat := ⟨[(1, .ptr 1 0), (3, .s)], [.box 1 (pl plC)]⟩
abbrev ts55_2000004 : SPat := ⟨[(1, .ptr 1 0), (3, .s)], [.box 1 (pl plC)]⟩
abbrev ts55_2000006 : SPat := ⟨[(3, .s)], []⟩
def tv55 : Nat → Option SPat := fun k => bif k == 3 then some ts55_3 else bif k == 8 then some ts55_8 else bif k == 13 then some ts55_13 else bif k == 18 then some ts55_18 else bif k == 2000000 then some ts55_2000000 else bif k == 2000002 then some ts55_2000002 else bif k == 2000004 then some ts55_2000004 else bif k == 2000006 then some ts55_2000006 else none
def tp55 : Nat → List Nat × Plan := fun id => bif id == 6 then ([0, 1, 2, 5, 6, 9, 10, 13, 14, 15], (.br 3 [2, 1] [0, 5, 6, 9, 10, 13, 14, 15] [4] (.br 7 [6, 5, 3, 2, 1] [0, 9, 10, 13, 14, 15, 4] [8] (.br 11 [10, 9, 7, 6, 5, 3, 2, 1] [0, 13, 14, 15, 4, 8] [12] (.br 16 [15, 14, 13, 11, 10, 9, 7, 6, 5, 3, 2, 1] [0, 4, 8, 12] [17] (.br 18 [17, 16, 15, 14, 13, 12, 11, 10, 9, 8, 7, 6, 5, 4, 3, 2, 1, 0] [] [] .fin .fin) .fin) .fin) .fin) .fin)) else bif id == 15 then ([0, 1, 2, 3, 4, 5, 6, 9, 10, 11, 12, 13, 14, 17, 18, 19, 20, 21, 22], (.br 7 [6, 5, 4, 3, 2, 1] [0, 9, 10, 11, 12, 13, 14, 17, 18, 19, 20, 21, 22] [8] (.br 15 [14, 13, 12, 11, 10, 9, 7, 6, 5, 4, 3, 2, 1] [0, 17, 18, 19, 20, 21, 22, 8] [16] (.br 23 [22, 21, 20, 19, 18, 17, 15, 14, 13, 12, 11, 10, 9, 7, 6, 5, 4, 3, 2, 1] [0, 8, 16] [24] (.br 25 [24, 23, 22, 21, 20, 19, 18, 17, 16, 15, 14, 13, 12, 11, 10, 9, 8, 7, 6, 5, 4, 3, 2, 1, 0] [] [] .fin .fin) .fin) .fin) .fin)) else ([], .fin)
def F55 : Cls → Option (List UInt8) := fun (app0, app1, app2, app3, app4, app5, app6) =>
 bindO (F134 (app0.length : Int)) fun y =>
 grdO (decide ((4 : Nat) + List.length y ≤ (9223372036854775807 : Nat))) (bindE (Y := List UInt8 × Cls) (whileO (fun (v3, v4, o0, o1, o2, o3, o4, o5, o6) =>
   cndO (decide (v4 < (o0.length : Int)))
    (grdO (decide ((0 : Int) ≤ v4)) (atO (o0) v4.toNat fun x => bindO (F135 (x.1, x.2.1, x.2.2.1, x.2.2.2)) fun y1 =>
    grdO (decide (List.length v3 + List.length y1 ≤ (9223372036854775807 : Nat))) (some (Sum.inl (v3 ++ y1, IntKind.wrap .i64 (v4 + (1 : Int)), o0, o1, o2, o3, o4, o5, o6)))))
    (some (Sum.inr (Sum.inl (v3, o0, o1, o2, o3, o4, o5, o6))))) (([(83 : UInt8), (84 : UInt8), (79 : UInt8), (87 : UInt8)] ++ y, (0 : Int), app0, app1, app2, app3, app4, app5, app6))) fun (v3, o0, o1, o2, o3, o4, o5, o6) =>
 bindO (F134 o1) fun y1 =>
 seqU (seqU (grdO (decide (v3 = v3)) (some (()))) (seqU (grdO (decide (o2 = o2)) (some (()))) (seqU (grdO (decide (o3 = o3)) (some (()))) (seqU (grdO (decide (o4 = o4)) (some (()))) (seqU (grdO (decide ((o4.length : Int) = (o4.length : Int))) (some (()))) (some (()))))))) (grdO (decide (List.length v3 + List.length y1 ≤ (9223372036854775807 : Nat))) (bindO (F136 o2) fun y2 =>
 seqU (seqU (grdO (decide (v3 = v3)) (some (()))) (seqU (grdO (decide (o3 = o3)) (some (()))) (seqU (grdO (decide (o4 = o4)) (some (()))) (seqU (grdO (decide ((o4.length : Int) = (o4.length : Int))) (some (()))) (seqU (grdO (decide (List.length v3 + List.length y1 ≤ (9223372036854775807 : Nat))) (grdO (decide (v3 ++ y1 = v3 ++ y1)) (some (())))) (some (()))))))) (grdO (decide (List.length (v3 ++ y1) + List.length y2 ≤ (9223372036854775807 : Nat))) (bindO (F136 o3) fun y3 =>
 seqU (seqU (grdO (decide (v3 = v3)) (some (()))) (seqU (grdO (decide (o4 = o4)) (some (()))) (seqU (grdO (decide ((o4.length : Int) = (o4.length : Int))) (some (()))) (seqU (grdO (decide (List.length v3 + List.length y1 ≤ (9223372036854775807 : Nat))) (grdO (decide (v3 ++ y1 = v3 ++ y1)) (some (())))) (seqU (grdO (decide (List.length (v3 ++ y1) + List.length y2 ≤ (9223372036854775807 : Nat))) (grdO (decide (v3 ++ y1 ++ y2 = v3 ++ y1 ++ y2)) (some (())))) (some (()))))))) (grdO (decide (List.length (v3 ++ y1 ++ y2) + List.length y3 ≤ (9223372036854775807 : Nat))) (bindO (F134 (o4.length : Int)) fun y4 =>
 seqU (seqU (grdO (decide (v3 = v3)) (some (()))) (seqU (grdO (decide (List.length v3 + List.length y1 ≤ (9223372036854775807 : Nat))) (grdO (decide (v3 ++ y1 = v3 ++ y1)) (some (())))) (seqU (grdO (decide (List.length (v3 ++ y1) + List.length y2 ≤ (9223372036854775807 : Nat))) (grdO (decide (v3 ++ y1 ++ y2 = v3 ++ y1 ++ y2)) (some (())))) (seqU (grdO (decide (List.length (v3 ++ y1 ++ y2) + List.length y3 ≤ (9223372036854775807 : Nat))) (grdO (decide (v3 ++ y1 ++ y2 ++ y3 = v3 ++ y1 ++ y2 ++ y3)) (some (())))) (some (())))))) (grdO (decide (List.length (v3 ++ y1 ++ y2 ++ y3) + List.length y4 ≤ (9223372036854775807 : Nat))) (bindE (Y := List UInt8 × Cls) (whileO (fun (v31, v5, o01, o11, o21, o31, o41, o51, o61) =>
   cndO (decide (v5 < (o41.length : Int)))
    (grdO (decide ((0 : Int) ≤ v5)) (atO (o41) v5.toNat fun x => bindO (F136 x) fun y5 =>
    grdO (decide (List.length v31 + List.length y5 ≤ (9223372036854775807 : Nat))) (some (Sum.inl (v31 ++ y5, IntKind.wrap .i64 (v5 + (1 : Int)), o01, o11, o21, o31, o41, o51, o61)))))
    (some (Sum.inr (Sum.inl (v31, o01, o11, o21, o31, o41, o51, o61))))) ((v3 ++ y1 ++ y2 ++ y3 ++ y4, (0 : Int), o0, o1, o2, o3, o4, o5, o6))) fun (v31, o01, o11, o21, o31, o41, o51, o61) =>
 bindO (F134 (o51.length : Int)) fun y5 =>
 grdO (decide (List.length v31 + List.length y5 ≤ (9223372036854775807 : Nat))) (bindE (Y := List UInt8 × Cls) (whileO (fun (v32, v6, o02, o12, o22, o32, o42, o52, o62) =>
   cndO (decide (v6 < (o52.length : Int)))
    (grdO (decide ((0 : Int) ≤ v6)) (atO (o52) v6.toNat fun x => grdO (decide ((0 : Int) ≤ v6)) (atO (o52) v6.toNat fun x1 => grdO (decide ((0 : Int) ≤ v6)) (atO (o52) v6.toNat fun x2 => bindO (F134 (x.1)) fun y6 =>
    seqU (seqU (grdO (decide (v32 = v32)) (some (()))) (seqU (grdO (decide (o52 = o52)) (some (()))) (seqU (grdO (decide (v6 = v6)) (some (()))) (seqU (grdO (decide ((0 : Int) ≤ v6)) (atO (o52) v6.toNat fun x3 => grdO (decide (x3.1 = x1.1) && (decide (x3.2.1 = x1.2.1) && (decide (x3.2.2 = x1.2.2) && true))) (some (())))) (seqU (grdO (decide (x1.2.1 = x1.2.1) && (decide (x1.2.2 = x1.2.2) && true)) (some (()))) (seqU (grdO (decide (x1.2.1 = x1.2.1)) (some (()))) (seqU (grdO (decide (o52 = o52)) (some (()))) (seqU (grdO (decide (v6 = v6)) (some (()))) (seqU (grdO (decide ((0 : Int) ≤ v6)) (atO (o52) v6.toNat fun x3 => grdO (decide (x3.1 = x2.1) && (decide (x3.2.1 = x2.2.1) && (decide (x3.2.2 = x2.2.2) && true))) (some (())))) (seqU (grdO (decide (x2.2.2 = x2.2.2) && true) (some (()))) (seqU (grdO (decide (x2.2.2 = x2.2.2)) (some (()))) (some (()))))))))))))) (grdO (decide (List.length v32 + List.length y6 ≤ (9223372036854775807 : Nat))) (bindO (F136 (x1.2.1)) fun y7 =>
    seqU (seqU (grdO (decide (v32 = v32)) (some (()))) (seqU (grdO (decide (o52 = o52)) (some (()))) (seqU (grdO (decide (v6 = v6)) (some (()))) (seqU (grdO (decide ((0 : Int) ≤ v6)) (atO (o52) v6.toNat fun x3 => grdO (decide (x3.1 = x2.1) && (decide (x3.2.1 = x2.2.1) && (decide (x3.2.2 = x2.2.2) && true))) (some (())))) (seqU (grdO (decide (x2.2.2 = x2.2.2) && true) (some (()))) (seqU (grdO (decide (x2.2.2 = x2.2.2)) (some (()))) (seqU (grdO (decide (List.length v32 + List.length y6 ≤ (9223372036854775807 : Nat))) (grdO (decide (v32 ++ y6 = v32 ++ y6)) (some (())))) (some (()))))))))) (grdO (decide (List.length (v32 ++ y6) + List.length y7 ≤ (9223372036854775807 : Nat))) (bindO (F136 (x2.2.2)) fun y8 =>
    seqU (seqU (grdO (decide (v32 = v32)) (some (()))) (seqU (grdO (decide (List.length v32 + List.length y6 ≤ (9223372036854775807 : Nat))) (grdO (decide (v32 ++ y6 = v32 ++ y6)) (some (())))) (seqU (grdO (decide (List.length (v32 ++ y6) + List.length y7 ≤ (9223372036854775807 : Nat))) (grdO (decide (v32 ++ y6 ++ y7 = v32 ++ y6 ++ y7)) (some (())))) (some (()))))) (grdO (decide (List.length (v32 ++ y6 ++ y7) + List.length y8 ≤ (9223372036854775807 : Nat))) (some (Sum.inl (v32 ++ y6 ++ y7 ++ y8, IntKind.wrap .i64 (v6 + (1 : Int)), o02, o12, o22, o32, o42, o52, o62))))))))))))
    (some (Sum.inr (Sum.inl (v32, o02, o12, o22, o32, o42, o52, o62))))) ((v31 ++ y5, (0 : Int), o01, o11, o21, o31, o41, o51, o61))) fun (v32, o02, o12, o22, o32, o42, o52, o62) =>
 bindO (F134 (o62.length : Int)) fun y6 =>
 grdO (decide (List.length v32 + List.length y6 ≤ (9223372036854775807 : Nat))) (bindE (Y := List UInt8) (whileO (fun (v33, v7, o03, o13, o23, o33, o43, o53, o63) =>
   cndO (decide (v7 < (o63.length : Int)))
    (grdO (decide ((0 : Int) ≤ v7)) (atO (o63) v7.toNat fun x => bindO (F137 (x.1, x.2.1, x.2.2.1, x.2.2.2.1, x.2.2.2.2.1, x.2.2.2.2.2.1, x.2.2.2.2.2.2.1, x.2.2.2.2.2.2.2)) fun y7 =>
    grdO (decide (List.length v33 + List.length y7 ≤ (9223372036854775807 : Nat))) (some (Sum.inl (v33 ++ y7, IntKind.wrap .i64 (v7 + (1 : Int)), o03, o13, o23, o33, o43, o53, o63)))))
    (some (Sum.inr (Sum.inl v33)))) ((v32 ++ y6, (0 : Int), o02, o12, o22, o32, o42, o52, o62))) fun v33 =>
 some (v33))))))))))))
theorem r55 (x : Cls) : funT T tb137 tp55 121 tv55 (bodyOf Tryz.f55) ti55 to55 x = F55 x := by kernel_rfl
def te55 : TEnt := ⟨55, true, [], ti55, to55.Den, F55, resF T [.tmp 2] 121 to55 []⟩
def tb55 : Nat → Option TEnt := insT 55 te55 tb137
theorem ok55 : TbOk Tryz.prog tb55 := TbOk.ins ok137 (fun_ok ok137 layOk mixed true _ ti55 to55 [] tp55 tv55 Tryz.func55 rfl Tryz.results55 Tryz.ntmps55 (by kernel_rfl) (by kernel_rfl) Tryz.call55 F55 fun x _ h => (r55 x).trans h)
abbrev ti219 : SPat := ⟨[(0, .ptr 100000 0), (1, .i .i64)], [.box 100000 (pl [.s, .i .i64, .b])]⟩
abbrev to219 : SPat := ⟨[(4, .s)], [.box 100000 (pl [.s, .i .i64, .b])]⟩
abbrev ts219_1000002 : SPat := ⟨[(0, .ptr 100000 0), (1, .i .i64), (22, .b)], [.box 100000 (pl [.s, .i .i64, .b])]⟩
def tv219 : Nat → Option SPat := fun k => bif k == 1000002 then some ts219_1000002 else none
def tp219 : Nat → List Nat × Plan := fun id => bif id == 1 then ([0, 1, 2, 3, 4, 5, 6, 7, 8, 9, 10, 11, 12, 13, 14, 15, 16, 17], .fin) else bif id == 5 then ([0, 1, 2, 3, 4, 5, 6, 7, 8, 9, 10, 11, 12, 13, 14], (.br 15 [14, 13, 12, 11, 10, 9, 8, 7, 6, 5, 4, 3, 2, 1, 0] [] [] .fin .fin)) else ([], .fin)
def F219 : Int × List UInt8 × Int × Bool → Option (List UInt8 × List UInt8 × Int × Bool) := fun (n, o0, o1, o2) =>
 bindE (Y := Int × Bool × List UInt8 × Int × Bool) (cndO (o2)
   (some (Sum.inl (n, true, o0, o1, o2)))
   (some (Sum.inl (n, decide ((o0.length : Int) < IntKind.wrap .i64 (o1 + n)), o0, o1, o2)))) fun (n1, v22, o01, o11, o21) =>
 cndO (v22)
  (some (([], o01, o11, true)))
  (grdO (decide ((0 : Int) ≤ IntKind.wrap .i64 (IntKind.wrap .i64 (o11 + n1) - n1)) && decide (IntKind.wrap .i64 (IntKind.wrap .i64 (o11 + n1) - n1) ≤ IntKind.wrap .i64 (o11 + n1)) && decide (IntKind.wrap .i64 (o11 + n1) ≤ (o01.length : Int))) (some ((List.drop (Int.toNat (IntKind.wrap .i64 (IntKind.wrap .i64 (o11 + n1) - n1))) (List.take (Int.toNat (IntKind.wrap .i64 (o11 + n1))) o01), o01, IntKind.wrap .i64 (o11 + n1), o21))))
theorem r219 (x : Int × List UInt8 × Int × Bool) : funT T tb55 tp219 50 tv219 (bodyOf Tryz.f219) ti219 to219 x = F219 x := by kernel_rfl
def te219 : TEnt := ⟨219, false, [(0, [])], ti219, to219.Den, F219, resF T [.tmp 4] 50 to219 [100000]⟩
def tb219 : Nat → Option TEnt := insT 219 te219 tb55
theorem ok219 : TbOk Tryz.prog tb219 := TbOk.ins ok55 (fun_ok ok55 layOk mixed false _ ti219 to219 [100000] tp219 tv219 Tryz.func219 rfl Tryz.results219 Tryz.ntmps219 (by kernel_rfl) (by kernel_rfl) Tryz.call219 F219 fun x _ h => (r219 x).trans h)
abbrev ti221 : SPat := ⟨[(0, .ptr 100000 0)], [.box 100000 (pl [.s, .i .i64, .b])]⟩
abbrev to221 : SPat := ⟨[(2, .i .i64)], [.box 100000 (pl [.s, .i .i64, .b])]⟩
abbrev ts221_1000002 : SPat := ⟨[(0, .ptr 100000 0), (18, .b)], [.box 100000 (pl [.s, .i .i64, .b])]⟩
def tv221 : Nat → Option SPat := fun k => bif k == 1000002 then some ts221_1000002 else none
def tp221 : Nat → List Nat × Plan := fun id => bif id == 1 then ([0, 1, 2, 3, 4, 5, 6, 7, 8, 9, 10, 11, 12, 13, 14, 15], .fin) else bif id == 5 then ([0, 1, 2, 3, 4, 5, 6, 7, 8, 9, 10], (.br 11 [10, 9, 8, 7, 6, 5, 4, 3, 2, 1, 0] [] [] .fin .fin)) else ([], .fin)
def F221 : List UInt8 × Int × Bool → Option (Int × List UInt8 × Int × Bool) := fun (o0, o1, o2) =>
 bindE (Y := Bool × List UInt8 × Int × Bool) (cndO (o2)
   (some (Sum.inl (true, o0, o1, o2)))
   (some (Sum.inl (decide ((o0.length : Int) ≤ o1), o0, o1, o2)))) fun (v18, o01, o11, o21) =>
 cndO (v18)
  (some (((0 : Int), o01, o11, true)))
  (grdO (decide ((0 : Int) ≤ IntKind.wrap .i64 (IntKind.wrap .i64 (o11 + (1 : Int)) - (1 : Int)))) (atO (o01) (Int.toNat (IntKind.wrap .i64 (IntKind.wrap .i64 (o11 + (1 : Int)) - (1 : Int)))) fun x => some ((IntKind.wrap .i64 (x.toNat : Int), o01, IntKind.wrap .i64 (o11 + (1 : Int)), o21))))
theorem r221 (x : List UInt8 × Int × Bool) : funT T tb219 tp221 41 tv221 (bodyOf Tryz.f221) ti221 to221 x = F221 x := by kernel_rfl
def te221 : TEnt := ⟨221, false, [(0, [])], ti221, to221.Den, F221, resF T [.tmp 2] 41 to221 [100000]⟩
def tb221 : Nat → Option TEnt := insT 221 te221 tb219
theorem ok221 : TbOk Tryz.prog tb221 := TbOk.ins ok219 (fun_ok ok219 layOk mixed false _ ti221 to221 [100000] tp221 tv221 Tryz.func221 rfl Tryz.results221 Tryz.ntmps221 (by kernel_rfl) (by kernel_rfl) Tryz.call221 F221 fun x _ h => (r221 x).trans h)
abbrev ti222 : SPat := ⟨[(0, .ptr 100000 0)], [.box 100000 (pl [.s, .i .i64, .b])]⟩
abbrev to222 : SPat := ⟨[(2, .i .i64)], [.box 100000 (pl [.s, .i .i64, .b])]⟩
def F222 : List UInt8 × Int × Bool → Option (Int × List UInt8 × Int × Bool) := fun (o0, o1, o2) =>
 bindO (F221 (o0, o1, o2)) fun (y, y1, y2, y3) =>
 bindO (F221 (y1, y2, y3)) fun (y4, y5, y6, y7) =>
 some ((IntKind.wrap .i64 (IntKind.wrap .i64 (y * (256 : Int)) + y4), y5, y6, y7))
theorem r222 (x : List UInt8 × Int × Bool) : funT T tb221 noPl 13 noIv (bodyOf Tryz.f222) ti222 to222 x = F222 x := by kernel_rfl
def te222 : TEnt := ⟨222, false, [(0, [])], ti222, to222.Den, F222, resF T [.tmp 2] 13 to222 [100000]⟩
def tb222 : Nat → Option TEnt := insT 222 te222 tb221
theorem ok222 : TbOk Tryz.prog tb222 := TbOk.ins ok221 (fun_ok ok221 layOk mixed false _ ti222 to222 [100000] noPl noIv Tryz.func222 rfl Tryz.results222 Tryz.ntmps222 (by kernel_rfl) (by kernel_rfl) Tryz.call222 F222 fun x _ h => (r222 x).trans h)
abbrev ti280 : SPat := ⟨[(0, .ptr 100000 0)], [.box 100000 (pl [.s, .i .i64, .b])]⟩
abbrev to280 : SPat := ⟨[(2, .ptr 2 0)], [.box 2 (pl [.i .i64, .s, .i .i64, .i .i64]), .box 100000 (pl [.s, .i .i64, .b])]⟩
abbrev ts280_1000012 : SPat := ⟨[(0, .ptr 100000 0), (2, .ptr 2 0), (3, .ptr 3 0), (24, .b)], [.box 2 (pl [.i .i64, .s, .i .i64, .i .i64]), .box 3 (pl [.i .i64, .s, .i .i64, .i .i64]), .box 100000 (pl [.s, .i .i64, .b])]⟩
abbrev ts280_2000000 : SPat := ⟨[(2, .ptr 2 0), (3, .ptr 3 0)], [.box 2 (pl [.i .i64, .s, .i .i64, .i .i64]), .box 3 (pl [.i .i64, .s, .i .i64, .i .i64]), .box 100000 (pl [.s, .i .i64, .b])]⟩
def tv280 : Nat → Option SPat := fun k => bif k == 1000012 then some ts280_1000012 else bif k == 2000000 then some ts280_2000000 else none
def F280 : List UInt8 × Int × Bool → Option ((Cst) × List UInt8 × Int × Bool) := fun (o0, o1, o2) =>
 bindO (F221 (o0, o1, o2)) fun (y, y1, y2, y3) =>
 bindE (Y := (Cst) × (Cst) × List UInt8 × Int × Bool) (cndO (decide (y = (1 : Int)))
   (bindO (F221 (y1, y2, y3)) fun (y4, y5, y6, y7) =>
   bindO (F219 (y4, y5, y6, y7)) fun (y8, y9, y10, y11) =>
   some (Sum.inl (((0 : Int), [], (0 : Int), (0 : Int)), (y, y8, (0 : Int), (0 : Int)), y9, y10, y11)))
   (cndO (decide (y = (2 : Int)))
    (bindO (F222 (y1, y2, y3)) fun (y4, y5, y6, y7) =>
    some (Sum.inl (((0 : Int), [], (0 : Int), (0 : Int)), (y, [], y4, (0 : Int)), y5, y6, y7)))
    (bindE (Y := Bool × (Cst) × (Cst) × List UInt8 × Int × Bool) (cndO (decide (y = (3 : Int)))
      (some (Sum.inl (true, ((0 : Int), [], (0 : Int), (0 : Int)), (y, [], (0 : Int), (0 : Int)), y1, y2, y3)))
      (cndO (decide (y = (4 : Int)))
       (some (Sum.inl (true, ((0 : Int), [], (0 : Int), (0 : Int)), (y, [], (0 : Int), (0 : Int)), y1, y2, y3)))
       (cndO (decide (y = (5 : Int)))
        (some (Sum.inl (true, ((0 : Int), [], (0 : Int), (0 : Int)), (y, [], (0 : Int), (0 : Int)), y1, y2, y3)))
        (some (Sum.inl (decide (y = (6 : Int)), ((0 : Int), [], (0 : Int), (0 : Int)), (y, [], (0 : Int), (0 : Int)), y1, y2, y3)))))) fun (v24, (o01, o11, o21, o3), (o02, o12, o22, o31), o03, o13, o23) =>
    cndO (v24)
     (bindO (F222 (o03, o13, o23)) fun (y4, y5, y6, y7) =>
     bindO (F222 (y5, y6, y7)) fun (y8, y9, y10, y11) =>
     some (Sum.inl ((o01, o11, o21, o3), (o02, o12, y4, y8), y9, y10, y11)))
     (some (Sum.inl ((o01, o11, o21, o3), (o02, o12, o22, o31), o03, o13, true)))))) fun ((o01, o11, o21, o3), (o02, o12, o22, o31), o03, o13, o23) =>
 some (((o02, o12, o22, o31), o03, o13, o23))
theorem r280 (x : List UInt8 × Int × Bool) : funT T tb222 noPl 36 tv280 (bodyOf Tryz.f280) ti280 to280 x = F280 x := by kernel_rfl
def te280 : TEnt := ⟨280, false, [(0, [])], ti280, to280.Den, F280, resF T [.cell 2 27] 36 to280 [100000]⟩
def tb280 : Nat → Option TEnt := insT 280 te280 tb222
theorem ok280 : TbOk Tryz.prog tb280 := TbOk.ins ok222 (fun_ok ok222 layOk mixed false _ ti280 to280 [100000] noPl tv280 Tryz.func280 rfl Tryz.results280 Tryz.ntmps280 (by kernel_rfl) (by kernel_rfl) Tryz.call280 F280 fun x _ h => (r280 x).trans h)
abbrev ti220 : SPat := ⟨[(0, .ptr 100000 0)], [.box 100000 (pl [.s, .i .i64, .b])]⟩
abbrev to220 : SPat := ⟨[(2, .own tg27 true)], [.box 100000 (pl [.s, .i .i64, .b])]⟩
abbrev ts220_6 : SPat := ⟨[(0, .ptr 100000 0), (3, .own tg27 true), (4, .i .i64), (5, .i .i64)], [.box 100000 (pl [.s, .i .i64, .b])]⟩
abbrev ts220_1000005 : SPat := ⟨[(0, .ptr 100000 0), (3, .own tg27 true), (4, .i .i64)], [.box 100000 (pl [.s, .i .i64, .b])]⟩
abbrev ts220_1000008 : SPat := ⟨[(0, .ptr 100000 0), (3, .own tg27 true), (4, .i .i64), (5, .i .i64)], [.box 100000 (pl [.s, .i .i64, .b])]⟩
abbrev ts220_2000000 : SPat := ⟨[(3, .own tg27 true)], [.box 100000 (pl [.s, .i .i64, .b])]⟩
def tv220 : Nat → Option SPat := fun k => bif k == 6 then some ts220_6 else bif k == 1000005 then some ts220_1000005 else bif k == 1000008 then some ts220_1000008 else bif k == 2000000 then some ts220_2000000 else none
def F220 : List UInt8 × Int × Bool → Option (List Cst × List UInt8 × Int × Bool) := fun (o0, o1, o2) =>
 bindO (F221 (o0, o1, o2)) fun (y, y1, y2, y3) =>
 bindE (Y := List Cst × Int × List UInt8 × Int × Bool) (cndO (decide ((60 : Int) < y))
   (some (Sum.inl ([], y, y1, y2, true)))
   (some (Sum.inl ([], y, y1, y2, y3)))) fun (out, n, o01, o11, o21) =>
 bindE (Y := List Cst × List UInt8 × Int × Bool) (whileO (fun (out1, n1, i, o02, o12, o22) =>
   bindE (Y := List Cst × Int × Int × List UInt8 × Int × Bool) (cndO (decide (i < n1))
     (cndO (!o22)
      (some (Sum.inl (out1, n1, i, o02, o12, o22)))
      (some (Sum.inr (Sum.inr (Sum.inl (out1, o02, o12, o22))))))
     (some (Sum.inr (Sum.inr (Sum.inl (out1, o02, o12, o22)))))) fun (out2, n2, i1, o03, o13, o23) =>
   bindO (F280 (o03, o13, o23)) fun ((y4, y5, y6, y7), y8, y9, x) =>
   grdO (decide (List.length out2 + (1 : Nat) ≤ (9223372036854775807 : Nat)) && decide ((List.length out2 + (1 : Nat)) * (40 : Nat) ≤ (140737488355328 : Nat))) (some (Sum.inl (out2 ++ [(y4, y5, y6, y7)], n2, IntKind.wrap .i64 (i1 + (1 : Int)), y8, y9, x)))) ((out, n, (0 : Int), o01, o11, o21))) fun (out1, o02, o12, o22) =>
 some ((out1, o02, o12, o22))
theorem r220 (x : List UInt8 × Int × Bool) : funT T tb280 noPl 32 tv220 (bodyOf Tryz.f220) ti220 to220 x = F220 x := by kernel_rfl
def te220 : TEnt := ⟨220, false, [(0, [])], ti220, to220.Den, F220, resF T [.tmp 2] 32 to220 [100000]⟩
def tb220 : Nat → Option TEnt := insT 220 te220 tb280
theorem ok220 : TbOk Tryz.prog tb220 := TbOk.ins ok280 (fun_ok ok280 layOk mixed false _ ti220 to220 [100000] noPl tv220 Tryz.func220 rfl Tryz.results220 Tryz.ntmps220 (by kernel_rfl) (by kernel_rfl) Tryz.call220 F220 fun x _ h => (r220 x).trans h)
abbrev ti317 : SPat := ⟨[(0, .ptr 100000 0)], [.box 100000 (pl [.s, .i .i64, .b])]⟩
abbrev to317 : SPat := ⟨[(2, .own tg184 true)], [.box 100000 (pl [.s, .i .i64, .b])]⟩
abbrev ts317_6 : SPat := ⟨[(0, .ptr 100000 0), (3, .own tg184 true), (4, .i .i64), (5, .i .i64)], [.box 100000 (pl [.s, .i .i64, .b])]⟩
abbrev ts317_1000005 : SPat := ⟨[(0, .ptr 100000 0), (3, .own tg184 true), (4, .i .i64)], [.box 100000 (pl [.s, .i .i64, .b])]⟩
abbrev ts317_1000008 : SPat := ⟨[(0, .ptr 100000 0), (3, .own tg184 true), (4, .i .i64), (5, .i .i64)], [.box 100000 (pl [.s, .i .i64, .b])]⟩
abbrev ts317_1000011 : SPat := ⟨[(0, .ptr 100000 0), (3, .own tg184 true), (4, .i .i64), (5, .i .i64), (6, .ptr 6 0)], [.box 6 (pl [.i .i64, .i .i64]), .box 100000 (pl [.s, .i .i64, .b])]⟩
abbrev ts317_2000000 : SPat := ⟨[(3, .own tg184 true)], [.box 100000 (pl [.s, .i .i64, .b])]⟩
abbrev ts317_2000001 : SPat := ⟨[(0, .ptr 100000 0), (3, .own tg184 true), (4, .i .i64), (5, .i .i64)], [.box 100000 (pl [.s, .i .i64, .b])]⟩
def tv317 : Nat → Option SPat := fun k => bif k == 6 then some ts317_6 else bif k == 1000005 then some ts317_1000005 else bif k == 1000008 then some ts317_1000008 else bif k == 1000011 then some ts317_1000011 else bif k == 2000000 then some ts317_2000000 else bif k == 2000001 then some ts317_2000001 else none
def F317 : List UInt8 × Int × Bool → Option (List (Int × Int) × List UInt8 × Int × Bool) := fun (o0, o1, o2) =>
 bindO (F221 (o0, o1, o2)) fun (y, y1, y2, y3) =>
 bindE (Y := List (Int × Int) × Int × List UInt8 × Int × Bool) (cndO (decide ((8 : Int) < y))
   (some (Sum.inl ([], y, y1, y2, true)))
   (some (Sum.inl ([], y, y1, y2, y3)))) fun (out, n, o01, o11, o21) =>
 bindE (Y := List (Int × Int) × List UInt8 × Int × Bool) (whileO (fun (out1, n1, i, o02, o12, o22) =>
   bindE (Y := List (Int × Int) × Int × Int × List UInt8 × Int × Bool) (cndO (decide (i < n1))
     (cndO (!o22)
      (some (Sum.inl (out1, n1, i, o02, o12, o22)))
      (some (Sum.inr (Sum.inr (Sum.inl (out1, o02, o12, o22))))))
     (some (Sum.inr (Sum.inr (Sum.inl (out1, o02, o12, o22)))))) fun (out2, n2, i1, o03, o13, o23) =>
   bindE (Y := List (Int × Int) × Int × Int × List UInt8 × Int × Bool) (bindO (F221 (o03, o13, o23)) fun (y4, y5, y6, y7) =>
    bindE (Y := List (Int × Int) × Int × Int × (Int × Int) × List UInt8 × Int × Bool) (cndO (decide (y4 = (3 : Int)))
      (bindO (F222 (y5, y6, y7)) fun (y8, y9, y10, y11) =>
      some (Sum.inl (out2, n2, i1, (y4, y8), y9, y10, y11)))
      (some (Sum.inl (out2, n2, i1, (y4, (0 : Int)), y5, y6, y7)))) fun (out3, n3, i2, (o04, o14), o05, o15, o24) =>
    cndO (decide ((3 : Int) < o04))
     (grdO (decide (List.length out3 + (1 : Nat) ≤ (9223372036854775807 : Nat)) && decide ((List.length out3 + (1 : Nat)) * (16 : Nat) ≤ (140737488355328 : Nat))) (some (Sum.inl (out3 ++ [(o04, o14)], n3, i2, o05, o15, true))))
     (grdO (decide (List.length out3 + (1 : Nat) ≤ (9223372036854775807 : Nat)) && decide ((List.length out3 + (1 : Nat)) * (16 : Nat) ≤ (140737488355328 : Nat))) (some (Sum.inl (out3 ++ [(o04, o14)], n3, i2, o05, o15, o24))))) fun (out3, n3, i2, o04, o14, o24) =>
   some (Sum.inl (out3, n3, IntKind.wrap .i64 (i2 + (1 : Int)), o04, o14, o24))) ((out, n, (0 : Int), o01, o11, o21))) fun (out1, o02, o12, o22) =>
 some ((out1, o02, o12, o22))
theorem r317 (x : List UInt8 × Int × Bool) : funT T tb220 noPl 47 tv317 (bodyOf Tryz.f317) ti317 to317 x = F317 x := by kernel_rfl
def te317 : TEnt := ⟨317, false, [(0, [])], ti317, to317.Den, F317, resF T [.tmp 2] 47 to317 [100000]⟩
def tb317 : Nat → Option TEnt := insT 317 te317 tb220
theorem ok317 : TbOk Tryz.prog tb317 := TbOk.ins ok220 (fun_ok ok220 layOk mixed false _ ti317 to317 [100000] noPl tv317 Tryz.func317 rfl Tryz.results317 Tryz.ntmps317 (by kernel_rfl) (by kernel_rfl) Tryz.call317 F317 fun x _ h => (r317 x).trans h)
abbrev ti281 : SPat := ⟨[(0, .ptr 100000 0), (1, .agg (pl [.i .i64, .i .i64, .i .i64, .i .i64, .i .i64, .s, .nil, .nil]))], [.box 100000 (pl [.s, .i .i64, .b])]⟩
abbrev to281 : SPat := ⟨[(4, .ptr 4 0)], [.box 4 (pl plN), .box 100000 (pl [.s, .i .i64, .b])]⟩
abbrev ts281_11 : SPat := ⟨[(0, .ptr 100000 0), (3, .ptr 3 0), (4, .ptr 4 0), (6, .i .i64), (7, .i .i64)], [.box 3 (pl plN), .box 4 (pl plN), .box 100000 (pl [.s, .i .i64, .b])]⟩
abbrev ts281_18 : SPat := ⟨[(0, .ptr 100000 0), (3, .ptr 3 0), (4, .ptr 4 0), (6, .i .i64), (8, .i .i64)], [.box 3 (pl plN), .box 4 (pl plN), .box 100000 (pl [.s, .i .i64, .b])]⟩
abbrev ts281_1000006 : SPat := ⟨[(0, .ptr 100000 0), (3, .ptr 3 0), (4, .ptr 4 0), (5, .i .i64)], [.box 3 (pl plN), .box 4 (pl plN), .box 100000 (pl [.s, .i .i64, .b])]⟩
abbrev ts281_1000010 : SPat := ⟨[(0, .ptr 100000 0), (3, .ptr 3 0), (4, .ptr 4 0), (6, .i .i64)], [.box 3 (pl plN), .box 4 (pl plN), .box 100000 (pl [.s, .i .i64, .b])]⟩
abbrev ts281_1000013 : SPat := ⟨[(0, .ptr 100000 0), (3, .ptr 3 0), (4, .ptr 4 0), (6, .i .i64), (7, .i .i64)], [.box 3 (pl plN), .box 4 (pl plN), .box 100000 (pl [.s, .i .i64, .b])]⟩
abbrev ts281_1000017 : SPat := ⟨[(0, .ptr 100000 0), (3, .ptr 3 0), (4, .ptr 4 0), (6, .i .i64)], [.box 3 (pl plN), .box 4 (pl plN), .box 100000 (pl [.s, .i .i64, .b])]⟩
abbrev ts281_1000020 : SPat := ⟨[(0, .ptr 100000 0), (3, .ptr 3 0), (4, .ptr 4 0), (6, .i .i64), (8, .i .i64)], [.box 3 (pl plN), .box 4 (pl plN), .box 100000 (pl [.s, .i .i64, .b])]⟩
abbrev ts281_2000000 : SPat := ⟨[(0, .ptr 100000 0), (3, .ptr 3 0), (4, .ptr 4 0)], [.box 3 (pl plN), .box 4 (pl plN), .box 100000 (pl [.s, .i .i64, .b])]⟩
abbrev ts281_2000002 : SPat := ⟨[(3, .ptr 3 0), (4, .ptr 4 0)], [.box 3 (pl plN), .box 4 (pl plN), .box 100000 (pl [.s, .i .i64, .b])]⟩
def tv281 : Nat → Option SPat := fun k => bif k == 11 then some ts281_11 else bif k == 18 then some ts281_18 else bif k == 1000006 then some ts281_1000006 else bif k == 1000010 then some ts281_1000010 else bif k == 1000013 then some ts281_1000013 else bif k == 1000017 then some ts281_1000017 else bif k == 1000020 then some ts281_1000020 else bif k == 2000000 then some ts281_2000000 else bif k == 2000002 then some ts281_2000002 else none
def tp281 : Nat → List Nat × Plan := fun id => bif id == 13 then ([0, 1, 2, 4, 6, 8], (.br 3 [2] [0, 1, 4, 6, 8] [] (.br 5 [4, 3, 2] [0, 1, 6, 8] [] (.br 7 [6, 5, 4, 3, 2] [0, 1, 8] [] (.br 9 [8, 7, 6, 5, 4, 3, 2] [0, 1] [10] (.br 11 [10, 9, 8, 7, 6, 5, 4, 3, 2] [0, 1] [] (.br 12 [11, 10, 9, 8, 7, 6, 5, 4, 3, 2, 1, 0] [] [13] (.br 14 [13, 12, 11, 10, 9, 8, 7, 6, 5, 4, 3, 2, 1, 0] [] [] .fin .fin) .fin) .fin) .fin) .fin) .fin) .fin)) else bif id == 20 then ([0, 1, 2, 4, 6], (.br 3 [2] [0, 1, 4, 6] [] (.br 5 [4, 3, 2] [0, 1, 6] [] (.br 7 [6, 5, 4, 3, 2] [0, 1] [8] (.br 9 [8, 7, 6, 5, 4, 3, 2] [0, 1] [] (.br 10 [9, 8, 7, 6, 5, 4, 3, 2, 1, 0] [] [11] (.br 12 [11, 10, 9, 8, 7, 6, 5, 4, 3, 2, 1, 0] [] [] .fin .fin) .fin) .fin) .fin) .fin) .fin)) else ([], .fin)
def F281 : (Int × Int × Int × Int × Int × List UInt8) × List UInt8 × Int × Bool → Option ((Mth) × List UInt8 × Int × Bool) := fun ((v10, v11, v12, v13, v14, v15), v16, v17, o0) =>
 bindO (F221 (v16, v17, o0)) fun (y, y1, y2, y3) =>
 bindO (F221 (y1, y2, y3)) fun (y4, y5, y6, y7) =>
 bindO (F222 (y5, y6, y7)) fun (y8, y9, y10, y11) =>
 bindE (Y := Int × (Mth) × (Mth) × List UInt8 × Int × Bool) (cndO (decide ((120 : Int) < y8))
   (some (Sum.inl (y8, (v10, v11, v12, y, y4, v15, [], []), ((0 : Int), (0 : Int), (0 : Int), (0 : Int), (0 : Int), [], [], []), y9, y10, true)))
   (some (Sum.inl (y8, (v10, v11, v12, y, y4, v15, [], []), ((0 : Int), (0 : Int), (0 : Int), (0 : Int), (0 : Int), [], [], []), y9, y10, y11)))) fun (v5, (o01, o1, o2, o3, o4, o5, o6, o7), (o02, o11, o21, o31, o41, o51, o61, o71), o03, o12, o22) =>
 bindO (F219 (v5, o03, o12, o22)) fun (y12, y13, y14, y15) =>
 bindO (F221 (y13, y14, y15)) fun (y16, y17, y18, y19) =>
 bindE (Y := Int × (Mth) × (Mth) × List UInt8 × Int × Bool) (cndO (decide ((3 : Int) < y16))
   (some (Sum.inl (y16, (o01, o1, o2, o3, o4, y12, o6, o7), (o02, o11, o21, o31, o41, o51, o61, o71), y17, y18, true)))
   (some (Sum.inl (y16, (o01, o1, o2, o3, o4, y12, o6, o7), (o02, o11, o21, o31, o41, o51, o61, o71), y17, y18, y19)))) fun (v6, (o04, o13, o23, o32, o42, o52, o62, o72), (o05, o14, o24, o33, o43, o53, o63, o73), o06, o15, o25) =>
 bindE (Y := (Mth) × (Mth) × List UInt8 × Int × Bool) (whileO (fun (v61, v7, (o07, o16, o26, o34, o44, o54, o64, o74), (o08, o17, o27, o35, o45, o55, o65, o75), o09, o18, o28) =>
   bindE (Y := Int × Int × (Mth) × (Mth) × List UInt8 × Int × Bool) (cndO (decide (v7 < v61))
     (cndO (!o28)
      (some (Sum.inl (v61, v7, (o07, o16, o26, o34, o44, o54, o64, o74), (o08, o17, o27, o35, o45, o55, o65, o75), o09, o18, o28)))
      (some (Sum.inr (Sum.inr (Sum.inl ((o07, o16, o26, o34, o44, o54, o64, o74), (o08, o17, o27, o35, o45, o55, o65, o75), o09, o18, o28))))))
     (some (Sum.inr (Sum.inr (Sum.inl ((o07, o16, o26, o34, o44, o54, o64, o74), (o08, o17, o27, o35, o45, o55, o65, o75), o09, o18, o28)))))) fun (v62, v71, (o010, o19, o29, o36, o46, o56, o66, o76), (o011, o110, o210, o37, o47, o57, o67, o77), o012, o111, o211) =>
   bindO (F222 (o012, o111, o211)) fun (y20, y21, y22, y23) =>
   bindO (F222 (y21, y22, y23)) fun (y24, y25, y26, y27) =>
   bindO (F222 (y25, y26, y27)) fun (y28, y29, y30, y31) =>
   bindO (F222 (y29, y30, y31)) fun (y32, y33, y34, y35) =>
   grdO (decide (List.length o66 + (1 : Nat) ≤ (9223372036854775807 : Nat)) && decide ((List.length o66 + (1 : Nat)) * (32 : Nat) ≤ (140737488355328 : Nat))) (some (Sum.inl (v62, IntKind.wrap .i64 (v71 + (1 : Int)), (o010, o19, o29, o36, o46, o56, o66 ++ [(y20, y24, y28, y32)], o76), (o011, o110, o210, o37, o47, o57, o67, o77), y33, y34, y35)))) ((v6, (0 : Int), (o04, o13, o23, o32, o42, o52, o62, o72), (o05, o14, o24, o33, o43, o53, o63, o73), o06, o15, o25))) fun ((o07, o16, o26, o34, o44, o54, o64, o74), (o08, o17, o27, o35, o45, o55, o65, o75), o09, o18, o28) =>
 bindO (F221 (o09, o18, o28)) fun (y20, y21, y22, y23) =>
 bindE (Y := Int × (Mth) × (Mth) × List UInt8 × Int × Bool) (cndO (decide ((8 : Int) < y20))
   (some (Sum.inl (y20, (o07, o16, o26, o34, o44, o54, o64, o74), (o08, o17, o27, o35, o45, o55, o65, o75), y21, y22, true)))
   (some (Sum.inl (y20, (o07, o16, o26, o34, o44, o54, o64, o74), (o08, o17, o27, o35, o45, o55, o65, o75), y21, y22, y23)))) fun (v61, (o010, o19, o29, o36, o46, o56, o66, o76), (o011, o110, o210, o37, o47, o57, o67, o77), o012, o111, o211) =>
 bindE (Y := (Mth) × (Mth) × List UInt8 × Int × Bool) (whileO (fun (v62, v8, (o013, o112, o212, o38, o48, o58, o68, o78), (o014, o113, o213, o39, o49, o59, o69, o79), o015, o114, o214) =>
   bindE (Y := Int × Int × (Mth) × (Mth) × List UInt8 × Int × Bool) (cndO (decide (v8 < v62))
     (cndO (!o214)
      (some (Sum.inl (v62, v8, (o013, o112, o212, o38, o48, o58, o68, o78), (o014, o113, o213, o39, o49, o59, o69, o79), o015, o114, o214)))
      (some (Sum.inr (Sum.inr (Sum.inl ((o013, o112, o212, o38, o48, o58, o68, o78), (o014, o113, o213, o39, o49, o59, o69, o79), o015, o114, o214))))))
     (some (Sum.inr (Sum.inr (Sum.inl ((o013, o112, o212, o38, o48, o58, o68, o78), (o014, o113, o213, o39, o49, o59, o69, o79), o015, o114, o214)))))) fun (v63, v81, (o016, o115, o215, o310, o410, o510, o610, o710), (o017, o116, o216, o311, o411, o511, o611, o711), o018, o117, o217) =>
   bindO (F222 (o018, o117, o217)) fun (y24, y25, y26, y27) =>
   bindO (F317 (y25, y26, y27)) fun (y28, y29, y30, y31) =>
   bindO (F317 (y29, y30, y31)) fun (y32, y33, y34, y35) =>
   grdO (decide (List.length o710 + (1 : Nat) ≤ (9223372036854775807 : Nat)) && decide ((List.length o710 + (1 : Nat)) * (56 : Nat) ≤ (140737488355328 : Nat))) (some (Sum.inl (v63, IntKind.wrap .i64 (v81 + (1 : Int)), (o016, o115, o215, o310, o410, o510, o610, o710 ++ [(y24, y28, y32)]), (o017, o116, o216, o311, o411, o511, o611, o711), y33, y34, y35)))) ((v61, (0 : Int), (o010, o19, o29, o36, o46, o56, o66, o76), (o011, o110, o210, o37, o47, o57, o67, o77), o012, o111, o211))) fun ((o013, o112, o212, o38, o48, o58, o68, o78), (o014, o113, o213, o39, o49, o59, o69, o79), o015, o114, o214) =>
 some (((o013, o112, o212, o38, o48, o58, o68, o78), o015, o114, o214))
theorem r281 (x : (Int × Int × Int × Int × Int × List UInt8) × List UInt8 × Int × Bool) : funT T tb317 tp281 91 tv281 (bodyOf Tryz.f281) ti281 to281 x = F281 x := by kernel_rfl
def te281 : TEnt := ⟨281, false, [(0, [])], ti281, to281.Den, F281, resF T [.cell 4 53] 91 to281 [100000]⟩
def tb281 : Nat → Option TEnt := insT 281 te281 tb317
theorem ok281 : TbOk Tryz.prog tb281 := TbOk.ins ok317 (fun_ok ok317 layOk mixed false _ ti281 to281 [100000] tp281 tv281 Tryz.func281 rfl Tryz.results281 Tryz.ntmps281 (by kernel_rfl) (by kernel_rfl) Tryz.call281 F281 fun x _ h => (r281 x).trans h)
abbrev ti223 : SPat := ⟨[(0, .ptr 100000 0)], [.box 100000 (pl [.s, .i .i64, .b])]⟩
abbrev to223 : SPat := ⟨[(2, .ptr 2 0)], [.box 2 (pl plN), .box 100000 (pl [.s, .i .i64, .b])]⟩
def F223 : List UInt8 × Int × Bool → Option ((Mth) × List UInt8 × Int × Bool) := fun (o0, o1, o2) =>
 bindO (F221 (o0, o1, o2)) fun (y, y1, y2, y3) =>
 bindO (F222 (y1, y2, y3)) fun (y4, y5, y6, y7) =>
 bindO (F222 (y5, y6, y7)) fun (y8, y9, y10, y11) =>
 cndO (decide (IntKind.wrap .i64 (Int.tdiv (Int.tmod y (16 : Int)) (8 : Int)) = (1 : Int)))
  (some (((y, y4, y8, (0 : Int), (0 : Int), [], [], []), y9, y10, y11)))
  (bindO (F281 ((y, y4, y8, (0 : Int), (0 : Int), []), y9, y10, y11)) fun ((y12, y13, y14, y15, y16, y17, x, x1), x2, x3, x4) =>
  some (((y12, y13, y14, y15, y16, y17, x, x1), x2, x3, x4)))
theorem r223 (x : List UInt8 × Int × Bool) : funT T tb281 noPl 20 noIv (bodyOf Tryz.f223) ti223 to223 x = F223 x := by kernel_rfl
def te223 : TEnt := ⟨223, false, [(0, [])], ti223, to223.Den, F223, resF T [.cell 2 53] 20 to223 [100000]⟩
def tb223 : Nat → Option TEnt := insT 223 te223 tb281
theorem ok223 : TbOk Tryz.prog tb223 := TbOk.ins ok281 (fun_ok ok281 layOk mixed false _ ti223 to223 [100000] noPl noIv Tryz.func223 rfl Tryz.results223 Tryz.ntmps223 (by kernel_rfl) (by kernel_rfl) Tryz.call223 F223 fun x _ h => (r223 x).trans h)
end Go.Proofs.YtdpapeledldifaaGreat
end
