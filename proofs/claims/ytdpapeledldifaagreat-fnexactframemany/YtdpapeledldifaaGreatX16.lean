/- Part 17 of the proof that, for every class, FrameMany of the code and of the specification agree; no condition. -/
import Derived.Test.YtdpapeledldifaaGreatX15
set_option autoImplicit true
set_option relaxedAutoImplicit true
set_option linter.all false
noncomputable section
namespace Go.Proofs.YtdpapeledldifaaGreat
open Go Go.AM Go.TM
set_option maxRecDepth 100000
set_option maxHeartbeats 4000000
abbrev ti239 : SPat := ⟨[(0, .s), (1, .i .u8)], []⟩
abbrev to239 : SPat := ⟨[(4, .i .i64)], []⟩
def F239 : List UInt8 × Int → Option (Int) := fun (s, c) =>
 bindO (F289 (s, c)) fun y =>
 some (y)
theorem r239 (x : List UInt8 × Int) : funT T tb238 noPl 8 noIv (bodyOf Tryz.f239) ti239 to239 x = F239 x := by kernel_rfl
def te239 : TEnt := ⟨239, true, [], ti239, to239.Den, F239, resF T [.tmp 4] 8 to239 []⟩
def tb239 : Nat → Option TEnt := insT 239 te239 tb238
theorem ok239 : TbOk Tryz.prog tb239 := TbOk.ins ok238 (fun_ok ok238 layOk mixed true _ ti239 to239 [] noPl noIv Tryz.func239 rfl Tryz.results239 Tryz.ntmps239 (by kernel_rfl) (by kernel_rfl) Tryz.call239 F239 fun x _ h => (r239 x).trans h)
abbrev ti170 : SPat := ⟨[(0, .s)], []⟩
abbrev to170 : SPat := ⟨[(2, .own .str true), (3, .s), (4, .b)], []⟩
abbrev ts170_6 : SPat := ⟨[(6, .s), (8, .s), (10, .own .str true)], []⟩
abbrev ts170_1000005 : SPat := ⟨[(6, .s), (8, .s)], []⟩
abbrev ts170_1000010 : SPat := ⟨[(6, .s), (8, .s), (10, .own .str true), (11, .i .i64)], []⟩
abbrev ts170_1000012 : SPat := ⟨[(6, .s), (8, .s), (10, .own .str true), (11, .i .i64)], []⟩
abbrev ts170_2000000 : SPat := ⟨[(6, .s), (10, .own .str true)], []⟩
def tv170 : Nat → Option SPat := fun k => bif k == 6 then some ts170_6 else bif k == 1000005 then some ts170_1000005 else bif k == 1000010 then some ts170_1000010 else bif k == 1000012 then some ts170_1000012 else bif k == 2000000 then some ts170_2000000 else none
def F170 : List UInt8 → Option (List (List UInt8) × List UInt8 × Bool) := fun app =>
 bindO (F238 app) fun (y, y1, y2) =>
 bindO (F204 (y, [(40 : UInt8)])) fun (y3, y4) =>
 bindE (Y := List UInt8 × List UInt8) (cndO (!y2)
   (some (Sum.inr ([], [], false)))
   (cndO (!y4)
    (some (Sum.inr ([], [], false)))
    (cndO (!decide (y1 = [(86 : UInt8)]))
     (bindO (F122 y1) fun y5 =>
     cndO (!y5)
      (some (Sum.inr ([], [], false)))
      (some (Sum.inl (y1, y3))))
     (some (Sum.inl (y1, y3)))))) fun (v6, v8) =>
 bindE (Y := List UInt8 × List (List UInt8)) (whileO (fun (v61, v81, v10) =>
   cndO (!decide (v81 = []))
    (bindE (Y := List UInt8 × List UInt8 × List (List UInt8) × Int) (atO (v81) ((0 : Nat)) fun x => cndO (!decide ((x.toNat : Int) = (73 : Int)))
      (bindO (F239 (v81, (59 : Int))) fun y5 =>
      some (Sum.inl (v61, v81, v10, IntKind.wrap .i64 (y5 + (1 : Int)))))
      (some (Sum.inl (v61, v81, v10, (1 : Int))))) fun (v62, v82, v101, v11) =>
    bindE (Y := List UInt8 × List UInt8 × List (List UInt8) × Int) (grdO (decide ((0 : Int) ≤ v11) && decide (v11 ≤ (v82.length : Int))) (bindO (F122 (List.drop (0 : Nat) (List.take v11.toNat v82))) fun y5 =>
     cndO (!y5)
      (some (Sum.inr (Sum.inr (Sum.inr ([], [], false)))))
      (cndO (decide ((v101.length : Int) = (4 : Int)))
       (some (Sum.inr (Sum.inr (Sum.inr ([], [], false)))))
       (some (Sum.inl (v62, v82, v101, v11)))))) fun (v63, v83, v102, v111) =>
    grdO (decide ((0 : Int) ≤ v111) && decide (v111 ≤ (v83.length : Int))) (grdO (decide (List.length v102 + (1 : Nat) ≤ (9223372036854775807 : Nat)) && decide ((List.length v102 + (1 : Nat)) * (16 : Nat) ≤ (140737488355328 : Nat))) (grdO (decide ((0 : Int) ≤ v111) && decide (v111 ≤ (v83.length : Int)) && decide ((v83.length : Int) ≤ (v83.length : Int))) (some (Sum.inl (v63, List.drop v111.toNat (List.take (Int.toNat (v83.length : Int)) v83), v102 ++ [List.drop (0 : Nat) (List.take v111.toNat v83)]))))))
    (some (Sum.inr (Sum.inl (v61, v10))))) ((v6, v8, []))) fun (v61, v10) =>
 some ((v10, v61, true))
theorem r170 (x : List UInt8) : funT T tb239 noPl 67 tv170 (bodyOf Tryz.f170) ti170 to170 x = F170 x := by kernel_rfl
def te170 : TEnt := ⟨170, false, [], ti170, to170.Den, F170, resF T [.tmp 2, .tmp 3, .tmp 4] 67 to170 []⟩
def tb170 : Nat → Option TEnt := insT 170 te170 tb239
theorem ok170 : TbOk Tryz.prog tb170 := TbOk.ins ok239 (fun_ok ok239 layOk mixed false _ ti170 to170 [] noPl tv170 Tryz.func170 rfl Tryz.results170 Tryz.ntmps170 (by kernel_rfl) (by kernel_rfl) Tryz.call170 F170 fun x _ h => (r170 x).trans h)
abbrev ti113 : SPat := ⟨[(0, .s)], []⟩
abbrev to113 : SPat := ⟨[(2, .b)], []⟩
def F113 : List UInt8 → Option (Bool) := fun s =>
 bindO (F170 s) fun (y, y1, y2) =>
 some (y2)
theorem r113 (x : List UInt8) : funT T tb170 noPl 13 noIv (bodyOf Tryz.f113) ti113 to113 x = F113 x := by kernel_rfl
def te113 : TEnt := ⟨113, true, [], ti113, to113.Den, F113, resF T [.tmp 2] 13 to113 []⟩
def tb113 : Nat → Option TEnt := insT 113 te113 tb170
theorem ok113 : TbOk Tryz.prog tb113 := TbOk.ins ok170 (fun_ok ok170 layOk mixed true _ ti113 to113 [] noPl noIv Tryz.func113 rfl Tryz.results113 Tryz.ntmps113 (by kernel_rfl) (by kernel_rfl) Tryz.call113 F113 fun x _ h => (r113 x).trans h)
abbrev ti121 : SPat := ⟨[(0, .s)], []⟩
abbrev to121 : SPat := ⟨[(2, .b)], []⟩
def F121 : List UInt8 → Option (Bool) := fun s =>
 bindO (F122 s) fun y =>
 cndO (y)
  (some (true))
  (bindO (F113 s) fun y1 =>
  some (y1))
theorem r121 (x : List UInt8) : funT T tb113 noPl 9 noIv (bodyOf Tryz.f121) ti121 to121 x = F121 x := by kernel_rfl
def te121 : TEnt := ⟨121, true, [], ti121, to121.Den, F121, resF T [.tmp 2] 9 to121 []⟩
def tb121 : Nat → Option TEnt := insT 121 te121 tb113
theorem ok121 : TbOk Tryz.prog tb121 := TbOk.ins ok113 (fun_ok ok113 layOk mixed true _ ti121 to121 [] noPl noIv Tryz.func121 rfl Tryz.results121 Tryz.ntmps121 (by kernel_rfl) (by kernel_rfl) Tryz.call121 F121 fun x _ h => (r121 x).trans h)
abbrev ti124 : SPat := ⟨[(0, .sl tg27), (1, .i .i64)], []⟩
abbrev to124 : SPat := ⟨[(4, .ptr 4 0)], [.box 4 (pl [.i .i64, .s, .i .i64, .i .i64])]⟩
def F124 : List Cst × Int → Option (Cst) := fun (pool, i) =>
 bindO (F89 (i, (1 : Int), (pool.length : Int))) fun y =>
 cndO (!y)
  (some (((0 : Int), [], (0 : Int), (0 : Int))))
  (grdO (decide ((0 : Int) ≤ IntKind.wrap .i64 (i - (1 : Int)))) (atO (pool) (Int.toNat (IntKind.wrap .i64 (i - (1 : Int)))) fun x => some ((x.1, x.2.1, x.2.2.1, x.2.2.2))))
theorem r124 (x : List Cst × Int) : funT T tb121 noPl 16 noIv (bodyOf Tryz.f124) ti124 to124 x = F124 x := by kernel_rfl
def te124 : TEnt := ⟨124, true, [], ti124, to124.Den, F124, resF T [.cell 4 27] 16 to124 []⟩
def tb124 : Nat → Option TEnt := insT 124 te124 tb121
theorem ok124 : TbOk Tryz.prog tb124 := TbOk.ins ok121 (fun_ok ok121 layOk mixed true _ ti124 to124 [] noPl noIv Tryz.func124 rfl Tryz.results124 Tryz.ntmps124 (by kernel_rfl) (by kernel_rfl) Tryz.call124 F124 fun x _ h => (r124 x).trans h)
abbrev ti49126 : SPat := ⟨[(0, .sl tg27), (1, .i .i64), (2, .fn 48 (pl []))], []⟩
abbrev to49126 : SPat := ⟨[(6, .b)], []⟩
def F49126 : List Cst × Int → Option (Bool) := fun (pool, i) =>
 bindO (F124 (pool, i)) fun (y, y1, y2, y3) =>
 cndO (decide (y = (1 : Int)))
  (bindO (F48 y1) fun y4 =>
  some (y4))
  (some (false))
theorem r49126 (x : List Cst × Int) : funT T tb124 noPl 20 noIv (bodyOf Tryz.f126) ti49126 to49126 x = F49126 x := by kernel_rfl
def te49126 : TEnt := ⟨126, true, [], ti49126, to49126.Den, F49126, resF T [.tmp 6] 20 to49126 []⟩
def tb49126 : Nat → Option TEnt := insT 49126 te49126 tb124
theorem ok49126 : TbOk Tryz.prog tb49126 := TbOk.ins ok124 (fun_ok ok124 layOk mixed true _ ti49126 to49126 [] noPl noIv Tryz.func126 rfl Tryz.results126 Tryz.ntmps126 (by kernel_rfl) (by kernel_rfl) Tryz.call126 F49126 fun x _ h => (r49126 x).trans h)
abbrev ti122126 : SPat := ⟨[(0, .sl tg27), (1, .i .i64), (2, .fn 121 (pl []))], []⟩
abbrev to122126 : SPat := ⟨[(6, .b)], []⟩
def F122126 : List Cst × Int → Option (Bool) := fun (pool, i) =>
 bindO (F124 (pool, i)) fun (y, y1, y2, y3) =>
 cndO (decide (y = (1 : Int)))
  (bindO (F121 y1) fun y4 =>
  some (y4))
  (some (false))
theorem r122126 (x : List Cst × Int) : funT T tb49126 noPl 20 noIv (bodyOf Tryz.f126) ti122126 to122126 x = F122126 x := by kernel_rfl
def te122126 : TEnt := ⟨126, true, [], ti122126, to122126.Den, F122126, resF T [.tmp 6] 20 to122126 []⟩
def tb122126 : Nat → Option TEnt := insT 122126 te122126 tb49126
theorem ok122126 : TbOk Tryz.prog tb122126 := TbOk.ins ok49126 (fun_ok ok49126 layOk mixed true _ ti122126 to122126 [] noPl noIv Tryz.func126 rfl Tryz.results126 Tryz.ntmps126 (by kernel_rfl) (by kernel_rfl) Tryz.call126 F122126 fun x _ h => (r122126 x).trans h)
abbrev ti125 : SPat := ⟨[(0, .sl tg27), (1, .i .i64)], []⟩
abbrev to125 : SPat := ⟨[(4, .b)], []⟩
def F125 : List Cst × Int → Option (Bool) := fun (pool, i) =>
 bindO (F124 (pool, i)) fun (y, y1, y2, y3) =>
 cndO (decide (y = (2 : Int)))
  (bindO (F49126 (pool, y2)) fun y4 =>
  some (y4))
  (some (false))
theorem r125 (x : List Cst × Int) : funT T tb122126 noPl 18 noIv (bodyOf Tryz.f125) ti125 to125 x = F125 x := by kernel_rfl
def te125 : TEnt := ⟨125, true, [], ti125, to125.Den, F125, resF T [.tmp 4] 18 to125 []⟩
def tb125 : Nat → Option TEnt := insT 125 te125 tb122126
theorem ok125 : TbOk Tryz.prog tb125 := TbOk.ins ok122126 (fun_ok ok122126 layOk mixed true _ ti125 to125 [] noPl noIv Tryz.func125 rfl Tryz.results125 Tryz.ntmps125 (by kernel_rfl) (by kernel_rfl) Tryz.call125 F125 fun x _ h => (r125 x).trans h)
abbrev ti123126 : SPat := ⟨[(0, .sl tg27), (1, .i .i64), (2, .fn 122 (pl []))], []⟩
abbrev to123126 : SPat := ⟨[(6, .b)], []⟩
def F123126 : List Cst × Int → Option (Bool) := fun (pool, i) =>
 bindO (F124 (pool, i)) fun (y, y1, y2, y3) =>
 cndO (decide (y = (1 : Int)))
  (bindO (F122 y1) fun y4 =>
  some (y4))
  (some (false))
theorem r123126 (x : List Cst × Int) : funT T tb125 noPl 20 noIv (bodyOf Tryz.f126) ti123126 to123126 x = F123126 x := by kernel_rfl
def te123126 : TEnt := ⟨126, true, [], ti123126, to123126.Den, F123126, resF T [.tmp 6] 20 to123126 []⟩
def tb123126 : Nat → Option TEnt := insT 123126 te123126 tb125
theorem ok123126 : TbOk Tryz.prog tb123126 := TbOk.ins ok125 (fun_ok ok125 layOk mixed true _ ti123126 to123126 [] noPl noIv Tryz.func126 rfl Tryz.results126 Tryz.ntmps126 (by kernel_rfl) (by kernel_rfl) Tryz.call126 F123126 fun x _ h => (r123126 x).trans h)
abbrev ti123123 : SPat := ⟨[(0, .fn 122 (pl [])), (1, .ptr 100000 0), (2, .ptr 100001 0)], [.box 100000 (pl [.sl tg27]), .box 100001 (pl [.i .i64, .s, .i .i64, .i .i64])]⟩
abbrev to123123 : SPat := ⟨[(4, .b)], [.box 100000 (pl [.sl tg27]), .box 100001 (pl [.i .i64, .s, .i .i64, .i .i64])]⟩
def F123123 : List Cst × Cst → Option (Bool × List Cst × Cst) := fun (o0, o01, o1, o2, o3) =>
 bindO (F124 (o0, o3)) fun (y, y1, y2, y3) =>
 cndO (decide (o1 = []))
  (bindO (F125 (o0, o2)) fun y4 =>
  cndO (y4)
   (cndO (decide (y = (3 : Int)))
    (bindO (F123126 (o0, y3)) fun y5 =>
    some ((y5, o0, o01, o1, o2, o3)))
    (some ((false, o0, o01, o1, o2, o3))))
   (some ((false, o0, o01, o1, o2, o3))))
  (some ((false, o0, o01, o1, o2, o3)))
theorem r123123 (x : List Cst × Cst) : funT T tb123126 noPl 31 noIv (bodyOf Tryz.f123) ti123123 to123123 x = F123123 x := by kernel_rfl
def te123123 : TEnt := ⟨123, false, [(1, []), (2, [])], ti123123, to123123.Den, F123123, resF T [.tmp 4] 31 to123123 [100000, 100001]⟩
def tb123123 : Nat → Option TEnt := insT 123123 te123123 tb123126
theorem ok123123 : TbOk Tryz.prog tb123123 := TbOk.ins ok123126 (fun_ok ok123126 layOk mixed false _ ti123123 to123123 [100000, 100001] noPl noIv Tryz.func123 rfl Tryz.results123 Tryz.ntmps123 (by kernel_rfl) (by kernel_rfl) Tryz.call123 F123123 fun x _ h => (r123123 x).trans h)
abbrev ti114126 : SPat := ⟨[(0, .sl tg27), (1, .i .i64), (2, .fn 113 (pl []))], []⟩
abbrev to114126 : SPat := ⟨[(6, .b)], []⟩
def F114126 : List Cst × Int → Option (Bool) := fun (pool, i) =>
 bindO (F124 (pool, i)) fun (y, y1, y2, y3) =>
 cndO (decide (y = (1 : Int)))
  (bindO (F113 y1) fun y4 =>
  some (y4))
  (some (false))
theorem r114126 (x : List Cst × Int) : funT T tb123123 noPl 20 noIv (bodyOf Tryz.f126) ti114126 to114126 x = F114126 x := by kernel_rfl
def te114126 : TEnt := ⟨126, true, [], ti114126, to114126.Den, F114126, resF T [.tmp 6] 20 to114126 []⟩
def tb114126 : Nat → Option TEnt := insT 114126 te114126 tb123123
theorem ok114126 : TbOk Tryz.prog tb114126 := TbOk.ins ok123123 (fun_ok ok123123 layOk mixed true _ ti114126 to114126 [] noPl noIv Tryz.func126 rfl Tryz.results126 Tryz.ntmps126 (by kernel_rfl) (by kernel_rfl) Tryz.call126 F114126 fun x _ h => (r114126 x).trans h)
abbrev ti114123 : SPat := ⟨[(0, .fn 113 (pl [])), (1, .ptr 100000 0), (2, .ptr 100001 0)], [.box 100000 (pl [.sl tg27]), .box 100001 (pl [.i .i64, .s, .i .i64, .i .i64])]⟩
abbrev to114123 : SPat := ⟨[(4, .b)], [.box 100000 (pl [.sl tg27]), .box 100001 (pl [.i .i64, .s, .i .i64, .i .i64])]⟩
def F114123 : List Cst × Cst → Option (Bool × List Cst × Cst) := fun (o0, o01, o1, o2, o3) =>
 bindO (F124 (o0, o3)) fun (y, y1, y2, y3) =>
 cndO (decide (o1 = []))
  (bindO (F125 (o0, o2)) fun y4 =>
  cndO (y4)
   (cndO (decide (y = (3 : Int)))
    (bindO (F114126 (o0, y3)) fun y5 =>
    some ((y5, o0, o01, o1, o2, o3)))
    (some ((false, o0, o01, o1, o2, o3))))
   (some ((false, o0, o01, o1, o2, o3))))
  (some ((false, o0, o01, o1, o2, o3)))
theorem r114123 (x : List Cst × Cst) : funT T tb114126 noPl 31 noIv (bodyOf Tryz.f123) ti114123 to114123 x = F114123 x := by kernel_rfl
def te114123 : TEnt := ⟨123, false, [(1, []), (2, [])], ti114123, to114123.Den, F114123, resF T [.tmp 4] 31 to114123 [100000, 100001]⟩
def tb114123 : Nat → Option TEnt := insT 114123 te114123 tb114126
theorem ok114123 : TbOk Tryz.prog tb114123 := TbOk.ins ok114126 (fun_ok ok114126 layOk mixed false _ ti114123 to114123 [100000, 100001] noPl noIv Tryz.func123 rfl Tryz.results123 Tryz.ntmps123 (by kernel_rfl) (by kernel_rfl) Tryz.call123 F114123 fun x _ h => (r114123 x).trans h)
abbrev ti52 : SPat := ⟨[(0, .sl tg27), (1, .agg (pl [.i .i64, .s, .i .i64, .i .i64]))], []⟩
abbrev to52 : SPat := ⟨[(4, .b)], []⟩
abbrev ts52_2000000 : SPat := ⟨[], []⟩
def tv52 : Nat → Option SPat := fun k => bif k == 2000000 then some ts52_2000000 else none
def F52 : List Cst × Cst → Option (Bool) := fun (app, v10, v11, v12, v13) =>
 bindE (cndO (decide (v10 = (1 : Int)))
   (cndO (decide (v12 = (0 : Int)))
    (cndO (decide (v13 = (0 : Int)))
     (bindO (F48 v11) fun y =>
     cndO (y)
      (some (Sum.inr true))
      (bindO (F121 v11) fun y1 =>
      some (Sum.inr y1)))
     (some (Sum.inr false)))
    (some (Sum.inr false)))
   (cndO (decide (v10 = (2 : Int)))
    (cndO (decide (v11 = []))
     (cndO (decide (v13 = (0 : Int)))
      (bindO (F49126 (app, v12)) fun y =>
      some (Sum.inr y))
      (some (Sum.inr false)))
     (some (Sum.inr false)))
    (cndO (decide (v10 = (3 : Int)))
     (cndO (decide (v11 = []))
      (bindO (F49126 (app, v12)) fun y =>
      cndO (y)
       (bindO (F122126 (app, v13)) fun y1 =>
       some (Sum.inr y1))
       (some (Sum.inr false)))
      (some (Sum.inr false)))
     (cndO (decide (v10 = (4 : Int)))
      (bindO (F123123 (app, v10, v11, v12, v13)) fun (y, y1, y2, y3, y4, y5) =>
      some (Sum.inr y))
      (cndO (decide (v10 = (5 : Int)))
       (bindO (F114123 (app, v10, v11, v12, v13)) fun (y, y1, y2, y3, y4, y5) =>
       some (Sum.inr y))
       (cndO (decide (v10 = (6 : Int)))
        (bindO (F114123 (app, v10, v11, v12, v13)) fun (y, y1, y2, y3, y4, y5) =>
        some (Sum.inr y))
        (some (Sum.inl ())))))))) fun _ =>
 some (false)
theorem r52 (x : List Cst × Cst) : funT T tb114123 noPl 74 tv52 (bodyOf Tryz.f52) ti52 to52 x = F52 x := by kernel_rfl
def te52 : TEnt := ⟨52, true, [], ti52, to52.Den, F52, resF T [.tmp 4] 74 to52 []⟩
def tb52 : Nat → Option TEnt := insT 52 te52 tb114123
theorem ok52 : TbOk Tryz.prog tb52 := TbOk.ins ok114123 (fun_ok ok114123 layOk mixed true _ ti52 to52 [] noPl tv52 Tryz.func52 rfl Tryz.results52 Tryz.ntmps52 (by kernel_rfl) (by kernel_rfl) Tryz.call52 F52 fun x _ h => (r52 x).trans h)
abbrev ti14 : SPat := ⟨[(0, .sl tg27)], []⟩
abbrev to14 : SPat := ⟨[(2, .i .i64)], []⟩
abbrev ts14_2 : SPat := ⟨[(0, .sl tg27), (5, .sl tg27), (6, .i .i64), (7, .i .i64)], []⟩
abbrev ts14_2000000 : SPat := ⟨[], []⟩
def tv14 : Nat → Option SPat := fun k => bif k == 2 then some ts14_2 else bif k == 2000000 then some ts14_2000000 else none
def F14 : List Cst → Option (Int) := fun pool =>
 bindE (whileO (fun (pool1, v5, v6, v7) =>
   cndO (decide (v7 < v6))
    (grdO (decide ((0 : Int) ≤ v7)) (atO (v5) v7.toNat fun x => cndO (decide (v7 = (60 : Int)))
     (some (Sum.inr (Sum.inr (61 : Int))))
     (bindO (F52 (pool1, x.1, x.2.1, x.2.2.1, x.2.2.2)) fun y =>
     cndO (!y)
      (some (Sum.inr (Sum.inr (IntKind.wrap .i64 (v7 + (1 : Int))))))
      (some (Sum.inl (pool1, v5, v6, IntKind.wrap .i64 (v7 + (1 : Int))))))))
    (some (Sum.inr (Sum.inl ())))) ((pool, pool, (pool.length : Int), (0 : Int)))) fun _ =>
 some ((0 : Int))
theorem r14 (x : List Cst) : funT T tb52 noPl 21 tv14 (bodyOf Tryz.f14) ti14 to14 x = F14 x := by kernel_rfl
def te14 : TEnt := ⟨14, true, [], ti14, to14.Den, F14, resF T [.tmp 2] 21 to14 []⟩
def tb14 : Nat → Option TEnt := insT 14 te14 tb52
theorem ok14 : TbOk Tryz.prog tb14 := TbOk.ins ok52 (fun_ok ok52 layOk mixed true _ ti14 to14 [] noPl tv14 Tryz.func14 rfl Tryz.results14 Tryz.ntmps14 (by kernel_rfl) (by kernel_rfl) Tryz.call14 F14 fun x _ h => (r14 x).trans h)
abbrev ti162 : SPat := ⟨[(0, .agg (pl plC)), (1, .i .i64)], []⟩
abbrev to162 : SPat := ⟨[(4, .b)], []⟩
def F162 : (Cls) × Int → Option (Bool) := fun ((c0, c1, c2, c3, c4, c5, c6), i) =>
 bindO (F124 (c0, i)) fun (y, y1, y2, y3) =>
 some (decide (y = (2 : Int)))
theorem r162 (x : (Cls) × Int) : funT T tb14 noPl 11 noIv (bodyOf Tryz.f162) ti162 to162 x = F162 x := by kernel_rfl
def te162 : TEnt := ⟨162, true, [], ti162, to162.Den, F162, resF T [.tmp 4] 11 to162 []⟩
def tb162 : Nat → Option TEnt := insT 162 te162 tb14
theorem ok162 : TbOk Tryz.prog tb162 := TbOk.ins ok14 (fun_ok ok14 layOk mixed true _ ti162 to162 [] noPl noIv Tryz.func162 rfl Tryz.results162 Tryz.ntmps162 (by kernel_rfl) (by kernel_rfl) Tryz.call162 F162 fun x _ h => (r162 x).trans h)
abbrev ti111 : SPat := ⟨[(0, .agg (pl plC)), (1, .i .i64)], []⟩
abbrev to111 : SPat := ⟨[(4, .s)], []⟩
def F111 : (Cls) × Int → Option (List UInt8) := fun ((c0, c1, c2, c3, c4, c5, c6), i) =>
 bindO (F124 (c0, i)) fun (y, y1, y2, y3) =>
 cndO (decide (y = (2 : Int)))
  (bindO (F124 (c0, y2)) fun (y4, y5, y6, y7) =>
  some (y5))
  (some (y1))
theorem r111 (x : (Cls) × Int) : funT T tb162 noPl 20 noIv (bodyOf Tryz.f111) ti111 to111 x = F111 x := by kernel_rfl
def te111 : TEnt := ⟨111, true, [], ti111, to111.Den, F111, resF T [.tmp 4] 20 to111 []⟩
def tb111 : Nat → Option TEnt := insT 111 te111 tb162
theorem ok111 : TbOk Tryz.prog tb111 := TbOk.ins ok162 (fun_ok ok162 layOk mixed true _ ti111 to111 [] noPl noIv Tryz.func111 rfl Tryz.results111 Tryz.ntmps111 (by kernel_rfl) (by kernel_rfl) Tryz.call111 F111 fun x _ h => (r111 x).trans h)
abbrev ti164 : SPat := ⟨[(0, .i .i64), (1, .ptr 100000 0), (2, .ptr 100001 0)], [.box 100000 (pl plC), .box 100001 (pl [.i .i64])]⟩
abbrev to164 : SPat := ⟨[(4, .b)], [.box 100000 (pl plC), .box 100001 (pl [.i .i64])]⟩
def tp164 : Nat → List Nat × Plan := fun id => bif id == 1 then ([0, 1, 3, 4], (.br 2 [1, 0] [3, 4] [] (.br 5 [4, 3, 2, 1, 0] [] [6] (.br 7 [6, 5, 4, 3, 2, 1, 0] [] [] .fin .fin) .fin) .fin)) else ([], .fin)
def F164 : Int × (Cls) × Int → Option (Bool × (Cls) × Int) := fun (g, (o0, o1, o2, o3, o4, o5, o6), o01) =>
 bindO (F111 ((o0, o1, o2, o3, o4, o5, o6), g)) fun y =>
 seqU (seqU (grdO (decide (o0 = o0) && (decide (o1 = o1) && (decide (o2 = o2) && (decide (o3 = o3) && (decide (o4 = o4) && (decide (o5 = o5) && (decide (o6 = o6) && true))))))) (some (()))) (seqU (grdO (decide (o01 = o01)) (some (()))) (some (())))) (bindO (F111 ((o0, o1, o2, o3, o4, o5, o6), o01)) fun y1 =>
 some ((decide (y = y1), (o0, o1, o2, o3, o4, o5, o6), o01)))
theorem r164 (x : Int × (Cls) × Int) : funT T tb111 tp164 12 noIv (bodyOf Tryz.f164) ti164 to164 x = F164 x := by kernel_rfl
def te164 : TEnt := ⟨164, false, [(1, []), (2, [])], ti164, to164.Den, F164, resF T [.tmp 4] 12 to164 [100000, 100001]⟩
def tb164 : Nat → Option TEnt := insT 164 te164 tb111
theorem ok164 : TbOk Tryz.prog tb164 := TbOk.ins ok111 (fun_ok ok111 layOk mixed false _ ti164 to164 [100000, 100001] tp164 noIv Tryz.func164 rfl Tryz.results164 Tryz.ntmps164 (by kernel_rfl) (by kernel_rfl) Tryz.call164 F164 fun x _ h => (r164 x).trans h)
abbrev ti165235 : SPat := ⟨[(0, .sl (.int .i64)), (1, .fn 164 (pl [.ptr 100000 0, .ptr 100001 0]))], [.box 100000 (pl plC), .box 100001 (pl [.i .i64])]⟩
abbrev to165235 : SPat := ⟨[(4, .i .i64)], [.box 100000 (pl plC), .box 100001 (pl [.i .i64])]⟩
abbrev ts165235_2 : SPat := ⟨[(0, .sl (.int .i64)), (1, .fn 164 (pl [.ptr 100000 0, .ptr 100001 0])), (7, .i .i64), (8, .i .i64)], [.box 100000 (pl plC), .box 100001 (pl [.i .i64])]⟩
abbrev ts165235_2000000 : SPat := ⟨[], [.box 100000 (pl plC), .box 100001 (pl [.i .i64])]⟩
def tv165235 : Nat → Option SPat := fun k => bif k == 2 then some ts165235_2 else bif k == 2000000 then some ts165235_2000000 else none
def F165235 : List Int × (Cls) × Int → Option (Int × (Cls) × Int) := fun (s, (o0, o1, o2, o3, o4, o5, o6), o01) =>
 bindE (Y := (Cls) × Int) (whileO (fun (s1, v7, v8, (o02, o11, o21, o31, o41, o51, o61), o03) =>
   cndO (decide (v8 < v7))
    (grdO (decide ((0 : Int) ≤ v8)) (atO (s1) v8.toNat fun x => bindO (F164 (x, (o02, o11, o21, o31, o41, o51, o61), o03)) fun (y, (y1, y2, y3, y4, y5, x1, x2), x3) =>
    cndO (y)
     (some (Sum.inr (Sum.inr (v8, (y1, y2, y3, y4, y5, x1, x2), x3))))
     (some (Sum.inl (s1, v7, IntKind.wrap .i64 (v8 + (1 : Int)), (y1, y2, y3, y4, y5, x1, x2), x3)))))
    (some (Sum.inr (Sum.inl ((o02, o11, o21, o31, o41, o51, o61), o03))))) ((s, (s.length : Int), (0 : Int), (o0, o1, o2, o3, o4, o5, o6), o01))) fun ((o02, o11, o21, o31, o41, o51, o61), o03) =>
 some (((-1 : Int), (o02, o11, o21, o31, o41, o51, o61), o03))
theorem r165235 (x : List Int × (Cls) × Int) : funT T tb164 noPl 19 tv165235 (bodyOf Tryz.f235) ti165235 to165235 x = F165235 x := by kernel_rfl
def te165235 : TEnt := ⟨235, false, [(1, [0]), (1, [1])], ti165235, to165235.Den, F165235, resF T [.tmp 4] 19 to165235 [100000, 100001]⟩
def tb165235 : Nat → Option TEnt := insT 165235 te165235 tb164
theorem ok165235 : TbOk Tryz.prog tb165235 := TbOk.ins ok164 (fun_ok ok164 layOk mixed false _ ti165235 to165235 [100000, 100001] noPl tv165235 Tryz.func235 rfl Tryz.results235 Tryz.ntmps235 (by kernel_rfl) (by kernel_rfl) Tryz.call235 F165235 fun x _ h => (r165235 x).trans h)
abbrev ti165163 : SPat := ⟨[(0, .sl (.int .i64)), (1, .fn 164 (pl [.ptr 100000 0, .ptr 100001 0]))], [.box 100000 (pl plC), .box 100001 (pl [.i .i64])]⟩
abbrev to165163 : SPat := ⟨[(4, .b)], [.box 100000 (pl plC), .box 100001 (pl [.i .i64])]⟩
def F165163 : List Int × (Cls) × Int → Option (Bool × (Cls) × Int) := fun (s, (o0, o1, o2, o3, o4, o5, o6), o01) =>
 bindO (F165235 (s, (o0, o1, o2, o3, o4, o5, o6), o01)) fun (y, (y1, y2, y3, y4, y5, x, x1), x2) =>
 some ((decide ((0 : Int) ≤ y), (y1, y2, y3, y4, y5, x, x1), x2))
theorem r165163 (x : List Int × (Cls) × Int) : funT T tb165235 noPl 9 noIv (bodyOf Tryz.f163) ti165163 to165163 x = F165163 x := by kernel_rfl
def te165163 : TEnt := ⟨163, false, [(1, [0]), (1, [1])], ti165163, to165163.Den, F165163, resF T [.tmp 4] 9 to165163 [100000, 100001]⟩
def tb165163 : Nat → Option TEnt := insT 165163 te165163 tb165235
theorem ok165163 : TbOk Tryz.prog tb165163 := TbOk.ins ok165235 (fun_ok ok165235 layOk mixed false _ ti165163 to165163 [100000, 100001] noPl noIv Tryz.func163 rfl Tryz.results163 Tryz.ntmps163 (by kernel_rfl) (by kernel_rfl) Tryz.call163 F165163 fun x _ h => (r165163 x).trans h)
abbrev ti165 : SPat := ⟨[(0, .agg (pl plC))], []⟩
abbrev to165 : SPat := ⟨[(2, .b)], []⟩
def F165 : Cls → Option (Bool) := fun (c0, c1, c2, c3, c4, c5, c6) =>
 some (!decide (andI IntKind.i64 c1 (1 : Int) = (0 : Int)))
theorem r165 (x : Cls) : funT T tb165163 noPl 7 noIv (bodyOf Tryz.f165) ti165 to165 x = F165 x := by kernel_rfl
def te165 : TEnt := ⟨165, true, [], ti165, to165.Den, F165, resF T [.tmp 2] 7 to165 []⟩
def tb165 : Nat → Option TEnt := insT 165 te165 tb165163
theorem ok165 : TbOk Tryz.prog tb165 := TbOk.ins ok165163 (fun_ok ok165163 layOk mixed true _ ti165 to165 [] noPl noIv Tryz.func165 rfl Tryz.results165 Tryz.ntmps165 (by kernel_rfl) (by kernel_rfl) Tryz.call165 F165 fun x _ h => (r165 x).trans h)
end Go.Proofs.YtdpapeledldifaaGreat
end
noncomputable section
namespace Go.Proofs.YtdpapeledldifaaGreat
open Go Go.AM Go.TM
set_option maxRecDepth 100000
set_option maxHeartbeats 4000000
abbrev ti83 : SPat := ⟨[(0, .agg (pl plC))], []⟩
abbrev to83 : SPat := ⟨[(2, .b)], []⟩
abbrev ts83_4 : SPat := ⟨[(1, .ptr 1 0), (31, .sl (.int .i64)), (32, .i .i64), (33, .i .i64)], [.box 1 (pl plC)]⟩
abbrev ts83_1000003 : SPat := ⟨[(1, .ptr 1 0)], [.box 1 (pl plC)]⟩
abbrev ts83_2000000 : SPat := ⟨[(1, .ptr 1 0)], [.box 1 (pl plC)]⟩
abbrev ts83_2000001 : SPat := ⟨[(1, .ptr 1 0), (31, .sl (.int .i64)), (32, .i .i64), (33, .i .i64)], [.box 1 (pl plC)]⟩
def tv83 : Nat → Option SPat := fun k => bif k == 4 then some ts83_4 else bif k == 1000003 then some ts83_1000003 else bif k == 2000000 then some ts83_2000000 else bif k == 2000001 then some ts83_2000001 else none
def tp83 : Nat → List Nat × Plan := fun id => bif id == 1 then ([0, 1, 2], (.br 3 [2, 1, 0] [] [4, 5, 6, 7, 8] (.br 9 [8, 7, 6, 5, 4, 3, 2, 1, 0] [] [10, 11, 12, 13, 14, 15, 17, 18, 19] (.br 16 [15, 14, 13, 12, 11, 10, 9, 8, 7, 6, 5, 4, 3, 2, 1, 0] [17, 18, 19] [] (.br 20 [19, 18, 17, 16, 15, 14, 13, 12, 11, 10, 9, 8, 7, 6, 5, 4, 3, 2, 1, 0] [] [21, 22] .fin .fin) .fin) .fin) .fin)) else bif id == 9 then ([0, 1, 2, 3, 4, 5, 6, 7], (.br 8 [3, 2, 1, 0] [4, 5, 6, 7] [] (.br 9 [8, 7, 6, 5, 4, 3, 2, 1, 0] [] [] .fin .fin) .fin)) else ([], .fin)
def F83 : Cls → Option (Bool) := fun (app0, app1, app2, app3, app4, app5, app6) =>
 bindE (Y := Cls) (bindO (F162 ((app0, app1, app2, app3, app4, app5, app6), app2)) fun y =>
  cndO (!y)
   (some (Sum.inr false))
   (bindO (F162 ((app0, app1, app2, app3, app4, app5, app6), app3)) fun y1 =>
   cndO (!y1)
    (some (Sum.inr false))
    (bindO (F111 ((app0, app1, app2, app3, app4, app5, app6), app3)) fun y2 =>
    seqU (seqU (grdO (decide (app0 = app0) && (decide (app1 = app1) && (decide (app2 = app2) && (decide (app3 = app3) && (decide (app4 = app4) && (decide (app5 = app5) && (decide (app6 = app6) && true))))))) (some (()))) (seqU (grdO (decide (app2 = app2)) (some (()))) (some (())))) (bindO (F111 ((app0, app1, app2, app3, app4, app5, app6), app2)) fun y3 =>
    cndO (decide (y2 = y3))
     (some (Sum.inr false))
     (some (Sum.inl (app0, app1, app2, app3, app4, app5, app6))))))) fun (o0, o1, o2, o3, o4, o5, o6) =>
 bindE (Y := Cls) (whileO (fun (v31, v32, v33, o01, o11, o21, o31, o41, o51, o61) =>
   cndO (decide (v33 < v32))
    (bindE (Y := List Int × Int × Int × Cls) (grdO (decide ((0 : Int) ≤ v33)) (atO (v31) v33.toNat fun x => bindO (F162 ((o01, o11, o21, o31, o41, o51, o61), x)) fun y =>
     cndO (!y)
      (some (Sum.inr (Sum.inr (Sum.inr false))))
      (grdO (decide ((0 : Int) ≤ v33) && decide (v33 ≤ (o41.length : Int))) (bindO (F165163 (List.drop (0 : Nat) (List.take v33.toNat o41), (o01, o11, o21, o31, o41, o51, o61), x)) fun (y1, (y2, y3, y4, y5, y6, x1, x2), x3) =>
      cndO (y1)
       (some (Sum.inr (Sum.inr (Sum.inr false))))
       (some (Sum.inl (v31, v32, v33, y2, y3, y4, y5, y6, x1, x2))))))) fun (v311, v321, v331, o02, o12, o22, o32, o42, o52, o62) =>
    some (Sum.inl (v311, v321, IntKind.wrap .i64 (v331 + (1 : Int)), o02, o12, o22, o32, o42, o52, o62)))
    (some (Sum.inr (Sum.inl (o01, o11, o21, o31, o41, o51, o61))))) ((o4, (o4.length : Int), (0 : Int), o0, o1, o2, o3, o4, o5, o6))) fun (o01, o11, o21, o31, o41, o51, o61) =>
 seqU (seqU (grdO (decide (o11 = o11)) (some (()))) (seqU (grdO (decide (andI IntKind.i64 o11 (4 : Int) = andI IntKind.i64 o11 (4 : Int))) (some (()))) (seqU (grdO (decide ((!decide (andI IntKind.i64 o11 (4 : Int) = (0 : Int))) = !decide (andI IntKind.i64 o11 (4 : Int) = (0 : Int)))) (some (()))) (some (()))))) (bindO (F89 (o11, (0 : Int), (7 : Int))) fun y =>
 cndO (y)
  (cndO (!decide (andI IntKind.i64 o11 (2 : Int) = (0 : Int)))
   (cndO (!!decide (andI IntKind.i64 o11 (4 : Int) = (0 : Int)))
    (bindO (F165 (o01, o11, o21, o31, o41, o51, o61)) fun y1 =>
    cndO (!y1)
     (some (true))
     (cndO (!decide (andI IntKind.i64 o11 (4 : Int) = (0 : Int)))
      (bindO (F111 ((o01, o11, o21, o31, o41, o51, o61), o31)) fun y2 =>
      some (decide (y2 = [(79 : UInt8), (98 : UInt8), (106 : UInt8)])))
      (some (false))))
    (some (false)))
   (bindO (F165 (o01, o11, o21, o31, o41, o51, o61)) fun y1 =>
   cndO (!y1)
    (some (true))
    (cndO (!decide (andI IntKind.i64 o11 (4 : Int) = (0 : Int)))
     (bindO (F111 ((o01, o11, o21, o31, o41, o51, o61), o31)) fun y2 =>
     some (decide (y2 = [(79 : UInt8), (98 : UInt8), (106 : UInt8)])))
     (some (false)))))
  (some (false)))
theorem r83 (x : Cls) : funT T tb165 tp83 84 tv83 (bodyOf Tryz.f83) ti83 to83 x = F83 x := by kernel_rfl
def te83 : TEnt := ⟨83, true, [], ti83, to83.Den, F83, resF T [.tmp 2] 84 to83 []⟩
def tb83 : Nat → Option TEnt := insT 83 te83 tb165
theorem ok83 : TbOk Tryz.prog tb83 := TbOk.ins ok165 (fun_ok ok165 layOk mixed true _ ti83 to83 [] tp83 tv83 Tryz.func83 rfl Tryz.results83 Tryz.ntmps83 (by kernel_rfl) (by kernel_rfl) Tryz.call83 F83 fun x _ h => (r83 x).trans h)
abbrev ti167 : SPat := ⟨[(0, .agg (pl [.i .i64, .i .i64, .i .i64])), (1, .ptr 100000 0), (2, .ptr 100001 0)], [.box 100000 (pl plC), .box 100001 (pl [.i .i64, .i .i64, .i .i64])]⟩
abbrev to167 : SPat := ⟨[(4, .b)], [.box 100000 (pl plC), .box 100001 (pl [.i .i64, .i .i64, .i .i64])]⟩
def tp167 : Nat → List Nat × Plan := fun id => bif id == 1 then ([0, 1, 2, 4, 5, 6], (.br 3 [2, 1, 0] [4, 5, 6] [] (.br 7 [6, 5, 4, 3, 2, 1, 0] [] [8] (.br 9 [8, 7, 6, 5, 4, 3, 2, 1, 0] [] [] .fin .fin) .fin) .fin)) else ([], .fin)
def F167 : (Int × Int × Int) × (Cls) × Int × Int × Int → Option (Bool × (Cls) × Int × Int × Int) := fun ((g0, g1, g2), (o0, o1, o2, o3, o4, o5, o6), o01, o11, o21) =>
 bindO (F111 ((o0, o1, o2, o3, o4, o5, o6), g1)) fun y =>
 seqU (seqU (grdO (decide (o0 = o0) && (decide (o1 = o1) && (decide (o2 = o2) && (decide (o3 = o3) && (decide (o4 = o4) && (decide (o5 = o5) && (decide (o6 = o6) && true))))))) (some (()))) (seqU (grdO (decide (o11 = o11)) (some (()))) (some (())))) (bindO (F111 ((o0, o1, o2, o3, o4, o5, o6), o11)) fun y1 =>
 some ((decide (y = y1), (o0, o1, o2, o3, o4, o5, o6), o01, o11, o21)))
theorem r167 (x : (Int × Int × Int) × (Cls) × Int × Int × Int) : funT T tb83 tp167 14 noIv (bodyOf Tryz.f167) ti167 to167 x = F167 x := by kernel_rfl
def te167 : TEnt := ⟨167, false, [(1, []), (2, [])], ti167, to167.Den, F167, resF T [.tmp 4] 14 to167 [100000, 100001]⟩
def tb167 : Nat → Option TEnt := insT 167 te167 tb83
theorem ok167 : TbOk Tryz.prog tb167 := TbOk.ins ok83 (fun_ok ok83 layOk mixed false _ ti167 to167 [100000, 100001] tp167 noIv Tryz.func167 rfl Tryz.results167 Tryz.ntmps167 (by kernel_rfl) (by kernel_rfl) Tryz.call167 F167 fun x _ h => (r167 x).trans h)
abbrev ti168236 : SPat := ⟨[(0, .sl tg89), (1, .fn 167 (pl [.ptr 100000 0, .ptr 100001 0]))], [.box 100000 (pl plC), .box 100001 (pl [.i .i64, .i .i64, .i .i64])]⟩
abbrev to168236 : SPat := ⟨[(4, .i .i64)], [.box 100000 (pl plC), .box 100001 (pl [.i .i64, .i .i64, .i .i64])]⟩
abbrev ts168236_2 : SPat := ⟨[(0, .sl tg89), (1, .fn 167 (pl [.ptr 100000 0, .ptr 100001 0])), (7, .i .i64), (8, .i .i64)], [.box 100000 (pl plC), .box 100001 (pl [.i .i64, .i .i64, .i .i64])]⟩
abbrev ts168236_2000000 : SPat := ⟨[], [.box 100000 (pl plC), .box 100001 (pl [.i .i64, .i .i64, .i .i64])]⟩
def tv168236 : Nat → Option SPat := fun k => bif k == 2 then some ts168236_2 else bif k == 2000000 then some ts168236_2000000 else none
def F168236 : List (Int × Int × Int) × (Cls) × Int × Int × Int → Option (Int × (Cls) × Int × Int × Int) := fun (s, (o0, o1, o2, o3, o4, o5, o6), o01, o11, o21) =>
 bindE (Y := (Cls) × Int × Int × Int) (whileO (fun (s1, v7, v8, (o02, o12, o22, o31, o41, o51, o61), o03, o13, o23) =>
   cndO (decide (v8 < v7))
    (grdO (decide ((0 : Int) ≤ v8)) (atO (s1) v8.toNat fun x => bindO (F167 ((x.1, x.2.1, x.2.2), (o02, o12, o22, o31, o41, o51, o61), o03, o13, o23)) fun (y, (y1, y2, y3, y4, y5, x1, x2), x3, x4, x5) =>
    cndO (y)
     (some (Sum.inr (Sum.inr (v8, (y1, y2, y3, y4, y5, x1, x2), x3, x4, x5))))
     (some (Sum.inl (s1, v7, IntKind.wrap .i64 (v8 + (1 : Int)), (y1, y2, y3, y4, y5, x1, x2), x3, x4, x5)))))
    (some (Sum.inr (Sum.inl ((o02, o12, o22, o31, o41, o51, o61), o03, o13, o23))))) ((s, (s.length : Int), (0 : Int), (o0, o1, o2, o3, o4, o5, o6), o01, o11, o21))) fun ((o02, o12, o22, o31, o41, o51, o61), o03, o13, o23) =>
 some (((-1 : Int), (o02, o12, o22, o31, o41, o51, o61), o03, o13, o23))
theorem r168236 (x : List (Int × Int × Int) × (Cls) × Int × Int × Int) : funT T tb167 noPl 19 tv168236 (bodyOf Tryz.f236) ti168236 to168236 x = F168236 x := by kernel_rfl
def te168236 : TEnt := ⟨236, false, [(1, [0]), (1, [1])], ti168236, to168236.Den, F168236, resF T [.tmp 4] 19 to168236 [100000, 100001]⟩
def tb168236 : Nat → Option TEnt := insT 168236 te168236 tb167
theorem ok168236 : TbOk Tryz.prog tb168236 := TbOk.ins ok167 (fun_ok ok167 layOk mixed false _ ti168236 to168236 [100000, 100001] noPl tv168236 Tryz.func236 rfl Tryz.results236 Tryz.ntmps236 (by kernel_rfl) (by kernel_rfl) Tryz.call236 F168236 fun x _ h => (r168236 x).trans h)
abbrev ti168166 : SPat := ⟨[(0, .sl tg89), (1, .fn 167 (pl [.ptr 100000 0, .ptr 100001 0]))], [.box 100000 (pl plC), .box 100001 (pl [.i .i64, .i .i64, .i .i64])]⟩
abbrev to168166 : SPat := ⟨[(4, .b)], [.box 100000 (pl plC), .box 100001 (pl [.i .i64, .i .i64, .i .i64])]⟩
def F168166 : List (Int × Int × Int) × (Cls) × Int × Int × Int → Option (Bool × (Cls) × Int × Int × Int) := fun (s, (o0, o1, o2, o3, o4, o5, o6), o01, o11, o21) =>
 bindO (F168236 (s, (o0, o1, o2, o3, o4, o5, o6), o01, o11, o21)) fun (y, (y1, y2, y3, y4, y5, x, x1), x2, x3, x4) =>
 some ((decide ((0 : Int) ≤ y), (y1, y2, y3, y4, y5, x, x1), x2, x3, x4))
theorem r168166 (x : List (Int × Int × Int) × (Cls) × Int × Int × Int) : funT T tb168236 noPl 9 noIv (bodyOf Tryz.f166) ti168166 to168166 x = F168166 x := by kernel_rfl
def te168166 : TEnt := ⟨166, false, [(1, [0]), (1, [1])], ti168166, to168166.Den, F168166, resF T [.tmp 4] 9 to168166 [100000, 100001]⟩
def tb168166 : Nat → Option TEnt := insT 168166 te168166 tb168236
theorem ok168166 : TbOk Tryz.prog tb168166 := TbOk.ins ok168236 (fun_ok ok168236 layOk mixed false _ ti168166 to168166 [100000, 100001] noPl noIv Tryz.func166 rfl Tryz.results166 Tryz.ntmps166 (by kernel_rfl) (by kernel_rfl) Tryz.call166 F168166 fun x _ h => (r168166 x).trans h)
abbrev ti84 : SPat := ⟨[(0, .agg (pl plC)), (1, .i .i64)], []⟩
abbrev to84 : SPat := ⟨[(4, .b)], []⟩
abbrev ts84_1000004 : SPat := ⟨[(1, .i .i64), (2, .ptr 2 0), (5, .ptr 5 0)], [.box 2 (pl plC), .box 5 (pl [.i .i64, .i .i64, .i .i64])]⟩
def tv84 : Nat → Option SPat := fun k => bif k == 1000004 then some ts84_1000004 else none
def F84 : (Cls) × Int → Option (Bool) := fun ((c0, c1, c2, c3, c4, c5, c6), i) =>
 grdO (decide ((0 : Int) ≤ i)) (atO (c5) i.toNat fun x => bindE (Y := Int × (Cls) × Int × Int × Int) (bindO (F49126 (c0, x.2.1)) fun y =>
  cndO (!y)
   (some (Sum.inr false))
   (bindO (F123126 (c0, x.2.2)) fun y1 =>
   cndO (!y1)
    (some (Sum.inr false))
    (bindO (F89 (x.1, (0 : Int), (3 : Int))) fun y2 =>
    cndO (!y2)
     (some (Sum.inr false))
     (bindO (F165 (c0, c1, c2, c3, c4, c5, c6)) fun y3 =>
     cndO (y3)
      (cndO (!decide (x.1 = (1 : Int)))
       (some (Sum.inr false))
       (some (Sum.inl (i, (c0, c1, c2, c3, c4, c5, c6), x.1, x.2.1, x.2.2))))
      (some (Sum.inl (i, (c0, c1, c2, c3, c4, c5, c6), x.1, x.2.1, x.2.2))))))) fun (i1, (o0, o1, o2, o3, o4, o5, o6), o01, o11, o21) =>
 grdO (decide ((0 : Int) ≤ i1) && decide (i1 ≤ (o5.length : Int))) (bindO (F168166 (List.drop (0 : Nat) (List.take i1.toNat o5), (o0, o1, o2, o3, o4, o5, o6), o01, o11, o21)) fun (y, (y1, y2, y3, y4, y5, x1, x2), x3, x4, x5) =>
 some (!y)))
theorem r84 (x : (Cls) × Int) : funT T tb168166 noPl 47 tv84 (bodyOf Tryz.f84) ti84 to84 x = F84 x := by kernel_rfl
def te84 : TEnt := ⟨84, true, [], ti84, to84.Den, F84, resF T [.tmp 4] 47 to84 []⟩
def tb84 : Nat → Option TEnt := insT 84 te84 tb168166
theorem ok84 : TbOk Tryz.prog tb84 := TbOk.ins ok168166 (fun_ok ok168166 layOk mixed true _ ti84 to84 [] noPl tv84 Tryz.func84 rfl Tryz.results84 Tryz.ntmps84 (by kernel_rfl) (by kernel_rfl) Tryz.call84 F84 fun x _ h => (r84 x).trans h)
abbrev ti169 : SPat := ⟨[(0, .agg (pl plM)), (1, .ptr 100000 0), (2, .ptr 100001 0), (3, .ptr 100002 0)], [.box 100000 (pl plC), .box 100001 (pl [.s]), .box 100002 (pl [.s])]⟩
abbrev to169 : SPat := ⟨[(5, .b)], [.box 100000 (pl plC), .box 100001 (pl [.s]), .box 100002 (pl [.s])]⟩
def tp169 : Nat → List Nat × Plan := fun id => bif id == 1 then ([0, 1, 2, 4], (.br 3 [2, 1, 0] [4] [5, 6, 7, 8, 9, 11] (.br 10 [9, 8, 7, 6, 5, 4, 3, 2, 1, 0] [11] [12, 13] (.br 14 [13, 12, 11, 10, 9, 8, 7, 6, 5, 4, 3, 2, 1, 0] [] [] .fin .fin) .fin) .fin)) else ([], .fin)
def F169 : (Mth) × (Cls) × List UInt8 × List UInt8 → Option (Bool × (Cls) × List UInt8 × List UInt8) := fun ((n0, n1, n2, n3, n4, n5, n6, n7), (o0, o1, o2, o3, o4, o5, o6), o01, o02) =>
 bindO (F111 ((o0, o1, o2, o3, o4, o5, o6), n1)) fun y =>
 seqU (seqU (grdO (decide (o01 = o01)) (some (()))) (some (()))) (cndO (decide (y = o01))
  (bindO (F111 ((o0, o1, o2, o3, o4, o5, o6), n2)) fun y1 =>
  seqU (seqU (grdO (decide (o02 = o02)) (some (()))) (some (()))) (some ((decide (y1 = o02), (o0, o1, o2, o3, o4, o5, o6), o01, o02))))
  (some ((false, (o0, o1, o2, o3, o4, o5, o6), o01, o02))))
theorem r169 (x : (Mth) × (Cls) × List UInt8 × List UInt8) : funT T tb84 tp169 20 noIv (bodyOf Tryz.f169) ti169 to169 x = F169 x := by kernel_rfl
def te169 : TEnt := ⟨169, false, [(1, []), (2, []), (3, [])], ti169, to169.Den, F169, resF T [.tmp 5] 20 to169 [100000, 100001, 100002]⟩
def tb169 : Nat → Option TEnt := insT 169 te169 tb84
theorem ok169 : TbOk Tryz.prog tb169 := TbOk.ins ok84 (fun_ok ok84 layOk mixed false _ ti169 to169 [100000, 100001, 100002] tp169 noIv Tryz.func169 rfl Tryz.results169 Tryz.ntmps169 (by kernel_rfl) (by kernel_rfl) Tryz.call169 F169 fun x _ h => (r169 x).trans h)
abbrev ti170237 : SPat := ⟨[(0, .sl tg53), (1, .fn 169 (pl [.ptr 100000 0, .ptr 100001 0, .ptr 100002 0]))], [.box 100000 (pl plC), .box 100001 (pl [.s]), .box 100002 (pl [.s])]⟩
abbrev to170237 : SPat := ⟨[(4, .i .i64)], [.box 100000 (pl plC), .box 100001 (pl [.s]), .box 100002 (pl [.s])]⟩
abbrev ts170237_2 : SPat := ⟨[(0, .sl tg53), (1, .fn 169 (pl [.ptr 100000 0, .ptr 100001 0, .ptr 100002 0])), (7, .i .i64), (8, .i .i64)], [.box 100000 (pl plC), .box 100001 (pl [.s]), .box 100002 (pl [.s])]⟩
abbrev ts170237_2000000 : SPat := ⟨[], [.box 100000 (pl plC), .box 100001 (pl [.s]), .box 100002 (pl [.s])]⟩
def tv170237 : Nat → Option SPat := fun k => bif k == 2 then some ts170237_2 else bif k == 2000000 then some ts170237_2000000 else none
def F170237 : List Mth × (Cls) × List UInt8 × List UInt8 → Option (Int × (Cls) × List UInt8 × List UInt8) := fun (s, (o0, o1, o2, o3, o4, o5, o6), o01, o02) =>
 bindE (Y := (Cls) × List UInt8 × List UInt8) (whileO (fun (s1, v7, v8, (o03, o11, o21, o31, o41, o51, o61), o04, o05) =>
   cndO (decide (v8 < v7))
    (grdO (decide ((0 : Int) ≤ v8)) (atO (s1) v8.toNat fun x => bindO (F169 ((x.1, x.2.1, x.2.2.1, x.2.2.2.1, x.2.2.2.2.1, x.2.2.2.2.2.1, x.2.2.2.2.2.2.1, x.2.2.2.2.2.2.2), (o03, o11, o21, o31, o41, o51, o61), o04, o05)) fun (y, (y1, y2, y3, y4, y5, x1, x2), x3, x4) =>
    cndO (y)
     (some (Sum.inr (Sum.inr (v8, (y1, y2, y3, y4, y5, x1, x2), x3, x4))))
     (some (Sum.inl (s1, v7, IntKind.wrap .i64 (v8 + (1 : Int)), (y1, y2, y3, y4, y5, x1, x2), x3, x4)))))
    (some (Sum.inr (Sum.inl ((o03, o11, o21, o31, o41, o51, o61), o04, o05))))) ((s, (s.length : Int), (0 : Int), (o0, o1, o2, o3, o4, o5, o6), o01, o02))) fun ((o03, o11, o21, o31, o41, o51, o61), o04, o05) =>
 some (((-1 : Int), (o03, o11, o21, o31, o41, o51, o61), o04, o05))
theorem r170237 (x : List Mth × (Cls) × List UInt8 × List UInt8) : funT T tb169 noPl 19 tv170237 (bodyOf Tryz.f237) ti170237 to170237 x = F170237 x := by kernel_rfl
def te170237 : TEnt := ⟨237, false, [(1, [0]), (1, [1]), (1, [2])], ti170237, to170237.Den, F170237, resF T [.tmp 4] 19 to170237 [100000, 100001, 100002]⟩
def tb170237 : Nat → Option TEnt := insT 170237 te170237 tb169
theorem ok170237 : TbOk Tryz.prog tb170237 := TbOk.ins ok169 (fun_ok ok169 layOk mixed false _ ti170237 to170237 [100000, 100001, 100002] noPl tv170237 Tryz.func237 rfl Tryz.results237 Tryz.ntmps237 (by kernel_rfl) (by kernel_rfl) Tryz.call237 F170237 fun x _ h => (r170237 x).trans h)
abbrev ti170168 : SPat := ⟨[(0, .sl tg53), (1, .fn 169 (pl [.ptr 100000 0, .ptr 100001 0, .ptr 100002 0]))], [.box 100000 (pl plC), .box 100001 (pl [.s]), .box 100002 (pl [.s])]⟩
abbrev to170168 : SPat := ⟨[(4, .b)], [.box 100000 (pl plC), .box 100001 (pl [.s]), .box 100002 (pl [.s])]⟩
def F170168 : List Mth × (Cls) × List UInt8 × List UInt8 → Option (Bool × (Cls) × List UInt8 × List UInt8) := fun (s, (o0, o1, o2, o3, o4, o5, o6), o01, o02) =>
 bindO (F170237 (s, (o0, o1, o2, o3, o4, o5, o6), o01, o02)) fun (y, (y1, y2, y3, y4, y5, x, x1), x2, x3) =>
 some ((decide ((0 : Int) ≤ y), (y1, y2, y3, y4, y5, x, x1), x2, x3))
theorem r170168 (x : List Mth × (Cls) × List UInt8 × List UInt8) : funT T tb170237 noPl 9 noIv (bodyOf Tryz.f168) ti170168 to170168 x = F170168 x := by kernel_rfl
def te170168 : TEnt := ⟨168, false, [(1, [0]), (1, [1]), (1, [2])], ti170168, to170168.Den, F170168, resF T [.tmp 4] 9 to170168 [100000, 100001, 100002]⟩
def tb170168 : Nat → Option TEnt := insT 170168 te170168 tb170237
theorem ok170168 : TbOk Tryz.prog tb170168 := TbOk.ins ok170237 (fun_ok ok170237 layOk mixed false _ ti170168 to170168 [100000, 100001, 100002] noPl noIv Tryz.func168 rfl Tryz.results168 Tryz.ntmps168 (by kernel_rfl) (by kernel_rfl) Tryz.call168 F170168 fun x _ h => (r170168 x).trans h)
abbrev ti85 : SPat := ⟨[(0, .agg (pl plC)), (1, .i .i64)], []⟩
abbrev to85 : SPat := ⟨[(4, .b)], []⟩
abbrev ts85_1000004 : SPat := ⟨[(1, .i .i64), (2, .ptr 2 0), (5, .ptr 5 0)], [.box 2 (pl plC), .box 5 (pl plM)]⟩
abbrev ts85_1000006 : SPat := ⟨[(1, .i .i64), (2, .ptr 2 0), (5, .ptr 5 0), (6, .ptr 6 0), (7, .ptr 7 0), (41, .b)], [.box 2 (pl plC), .box 5 (pl plM), .box 6 (pl [.s]), .box 7 (pl [.s])]⟩
abbrev ts85_1000008 : SPat := ⟨[(1, .i .i64), (2, .ptr 2 0), (5, .ptr 5 0), (6, .ptr 6 0), (7, .ptr 7 0), (56, .b)], [.box 2 (pl plC), .box 5 (pl plM), .box 6 (pl [.s]), .box 7 (pl [.s])]⟩
abbrev ts85_2000000 : SPat := ⟨[(1, .i .i64), (2, .ptr 2 0), (6, .ptr 6 0), (7, .ptr 7 0)], [.box 2 (pl plC), .box 6 (pl [.s]), .box 7 (pl [.s])]⟩
def tv85 : Nat → Option SPat := fun k => bif k == 1000004 then some ts85_1000004 else bif k == 1000006 then some ts85_1000006 else bif k == 1000008 then some ts85_1000008 else bif k == 2000000 then some ts85_2000000 else none
def tp85 : Nat → List Nat × Plan := fun id => bif id == 4 then ([0, 1, 2, 4, 5, 6], (.br 3 [2, 1, 0] [4, 5, 6] [] (.br 7 [6, 5, 4, 3, 2, 1, 0] [] [] (.br 8 [] [0, 1, 2, 4, 5, 6] [] (.br 9 [] [0, 1, 2, 4, 5, 6] [] (.br 10 [9, 8, 7, 6, 5, 4, 3, 2, 1, 0] [] [] (.br 11 [10, 9, 8, 7, 6, 5, 4, 3, 2, 1, 0] [] [] .fin .fin) .fin) .fin) (.br 9 [] [0, 1, 2, 4, 5, 6] [] (.br 8 [] [0, 1, 2, 4, 5, 6] [] (.br 10 [9, 8, 7, 6, 5, 4, 3, 2, 1, 0] [] [] (.br 11 [10, 9, 8, 7, 6, 5, 4, 3, 2, 1, 0] [] [] .fin .fin) .fin) .fin) .fin)) (.br 8 [] [0, 1, 2, 4, 5, 6] [] (.br 7 [6, 5, 4, 3, 2, 1, 0] [] [] (.br 9 [] [0, 1, 2, 4, 5, 6] [] (.br 10 [9, 8, 7, 6, 5, 4, 3, 2, 1, 0] [] [] (.br 11 [10, 9, 8, 7, 6, 5, 4, 3, 2, 1, 0] [] [] .fin .fin) .fin) .fin) (.br 9 [] [0, 1, 2, 4, 5, 6] [] (.br 7 [6, 5, 4, 3, 2, 1, 0] [] [] (.br 10 [9, 8, 7, 6, 5, 4, 3, 2, 1, 0] [] [] (.br 11 [10, 9, 8, 7, 6, 5, 4, 3, 2, 1, 0] [] [] .fin .fin) .fin) .fin) .fin)) (.br 9 [] [0, 1, 2, 4, 5, 6] [] (.br 7 [6, 5, 4, 3, 2, 1, 0] [] [] (.br 8 [] [0, 1, 2, 4, 5, 6] [] (.br 10 [9, 8, 7, 6, 5, 4, 3, 2, 1, 0] [] [] (.br 11 [10, 9, 8, 7, 6, 5, 4, 3, 2, 1, 0] [] [] .fin .fin) .fin) .fin) (.br 8 [] [0, 1, 2, 4, 5, 6] [] (.br 7 [6, 5, 4, 3, 2, 1, 0] [] [] (.br 10 [9, 8, 7, 6, 5, 4, 3, 2, 1, 0] [] [] (.br 11 [10, 9, 8, 7, 6, 5, 4, 3, 2, 1, 0] [] [] .fin .fin) .fin) .fin) .fin)) .fin))) (.br 8 [] [0, 1, 2, 4, 5, 6] [] (.br 3 [2, 1, 0] [4, 5, 6] [] (.br 7 [6, 5, 4, 3, 2, 1, 0] [] [] (.br 9 [] [0, 1, 2, 4, 5, 6] [] (.br 10 [9, 8, 7, 6, 5, 4, 3, 2, 1, 0] [] [] (.br 11 [10, 9, 8, 7, 6, 5, 4, 3, 2, 1, 0] [] [] .fin .fin) .fin) .fin) (.br 9 [] [0, 1, 2, 4, 5, 6] [] (.br 7 [6, 5, 4, 3, 2, 1, 0] [] [] (.br 10 [9, 8, 7, 6, 5, 4, 3, 2, 1, 0] [] [] (.br 11 [10, 9, 8, 7, 6, 5, 4, 3, 2, 1, 0] [] [] .fin .fin) .fin) .fin) .fin)) (.br 9 [] [0, 1, 2, 4, 5, 6] [] (.br 3 [2, 1, 0] [4, 5, 6] [] (.br 7 [6, 5, 4, 3, 2, 1, 0] [] [] (.br 10 [9, 8, 7, 6, 5, 4, 3, 2, 1, 0] [] [] (.br 11 [10, 9, 8, 7, 6, 5, 4, 3, 2, 1, 0] [] [] .fin .fin) .fin) .fin) .fin) .fin)) (.br 9 [] [0, 1, 2, 4, 5, 6] [] (.br 3 [2, 1, 0] [4, 5, 6] [] (.br 7 [6, 5, 4, 3, 2, 1, 0] [] [] (.br 8 [] [0, 1, 2, 4, 5, 6] [] (.br 10 [9, 8, 7, 6, 5, 4, 3, 2, 1, 0] [] [] (.br 11 [10, 9, 8, 7, 6, 5, 4, 3, 2, 1, 0] [] [] .fin .fin) .fin) .fin) (.br 8 [] [0, 1, 2, 4, 5, 6] [] (.br 7 [6, 5, 4, 3, 2, 1, 0] [] [] (.br 10 [9, 8, 7, 6, 5, 4, 3, 2, 1, 0] [] [] (.br 11 [10, 9, 8, 7, 6, 5, 4, 3, 2, 1, 0] [] [] .fin .fin) .fin) .fin) .fin)) (.br 8 [] [0, 1, 2, 4, 5, 6] [] (.br 3 [2, 1, 0] [4, 5, 6] [] (.br 7 [6, 5, 4, 3, 2, 1, 0] [] [] (.br 10 [9, 8, 7, 6, 5, 4, 3, 2, 1, 0] [] [] (.br 11 [10, 9, 8, 7, 6, 5, 4, 3, 2, 1, 0] [] [] .fin .fin) .fin) .fin) .fin) .fin)) .fin)))) else ([], .fin)
def F85 : (Cls) × Int → Option (Bool) := fun ((app0, app1, app2, app3, app4, app5, app6), v1) =>
 grdO (decide ((0 : Int) ≤ v1)) (atO (app6) v1.toNat fun x => bindE (Y := Int × (Cls) × Mth) (bindO (F49126 (app0, x.2.1)) fun y =>
  cndO (!y)
   (some (Sum.inr false))
   (bindO (F114126 (app0, x.2.2.1)) fun y1 =>
   cndO (!y1)
    (some (Sum.inr false))
    (bindO (F89 (x.1, (0 : Int), (15 : Int))) fun y2 =>
    cndO (!y2)
     (some (Sum.inr false))
     (some (Sum.inl (v1, (app0, app1, app2, app3, app4, app5, app6), x.1, x.2.1, x.2.2.1, x.2.2.2.1, x.2.2.2.2.1, x.2.2.2.2.2.1, x.2.2.2.2.2.2.1, x.2.2.2.2.2.2.2)))))) fun (v11, (o0, o1, o2, o3, o4, o5, o6), o01, o11, o21, o31, o41, o51, o61, o7) =>
 bothO
  (bindO (F111 ((o0, o1, o2, o3, o4, o5, o6), o11)) fun y =>
  seqU (seqU (grdO (decide (o0 = o0) && (decide (o1 = o1) && (decide (o2 = o2) && (decide (o3 = o3) && (decide (o4 = o4) && (decide (o5 = o5) && (decide (o6 = o6) && true))))))) (some (()))) (seqU (grdO (decide (o21 = o21)) (some (()))) (some (())))) (bothO
   (bindO (F111 ((o0, o1, o2, o3, o4, o5, o6), o21)) fun y1 =>
   bothO
    (seqU (seqU (grdO (decide (o0 = o0) && (decide (o1 = o1) && (decide (o2 = o2) && (decide (o3 = o3) && (decide (o4 = o4) && (decide (o5 = o5) && (decide (o6 = o6) && true))))))) (some (()))) (seqU (grdO (decide (o11 = o11)) (some (()))) (seqU (grdO (decide (o0 = o0) && (decide (o1 = o1) && (decide (o2 = o2) && (decide (o3 = o3) && (decide (o4 = o4) && (decide (o5 = o5) && (decide (o6 = o6) && true))))))) (some (()))) (seqU (grdO (decide (o21 = o21)) (some (()))) (some (())))))) (seqU (seqU (grdO (decide (o0 = o0) && (decide (o1 = o1) && (decide (o2 = o2) && (decide (o3 = o3) && (decide (o4 = o4) && (decide (o5 = o5) && (decide (o6 = o6) && true))))))) (some (()))) (seqU (grdO (decide (o11 = o11)) (some (()))) (seqU (grdO (decide (o0 = o0) && (decide (o1 = o1) && (decide (o2 = o2) && (decide (o3 = o3) && (decide (o4 = o4) && (decide (o5 = o5) && (decide (o6 = o6) && true))))))) (some (()))) (seqU (grdO (decide (o21 = o21)) (some (()))) (some (())))))) (bindE (Y := Int × (Cls) × List UInt8 × List UInt8) (bindE (Y := Int × Bool × (Cls) × (Mth) × List UInt8 × List UInt8) (bindO (F86 o01) fun y2 =>
      cndO (y2)
       (cndO (!decide (o01 = (8 : Int)))
        (some (Sum.inl (v11, true, (o0, o1, o2, o3, o4, o5, o6), (o01, o11, o21, o31, o41, o51, o61, o7), y, y1)))
        (some (Sum.inl (v11, decide (andI IntKind.i64 o1 (4 : Int) = (0 : Int)), (o0, o1, o2, o3, o4, o5, o6), (o01, o11, o21, o31, o41, o51, o61, o7), y, y1))))
       (some (Sum.inl (v11, false, (o0, o1, o2, o3, o4, o5, o6), (o01, o11, o21, o31, o41, o51, o61, o7), y, y1)))) fun (v12, v41, (o02, o12, o22, o32, o42, o52, o62), (o03, o13, o23, o33, o43, o53, o63, o71), o04, o05) =>
     cndO (v41)
      (some (Sum.inr false))
      (bindE (Y := Int × Bool × (Cls) × (Mth) × List UInt8 × List UInt8) (bindO (F86 o03) fun y2 =>
       cndO (!y2)
        (bindO (F165 (o02, o12, o22, o32, o42, o52, o62)) fun y3 =>
        cndO (y3)
         (some (Sum.inl (v12, !decide (o03 = (1 : Int)), (o02, o12, o22, o32, o42, o52, o62), (o03, o13, o23, o33, o43, o53, o63, o71), o04, o05)))
         (some (Sum.inl (v12, false, (o02, o12, o22, o32, o42, o52, o62), (o03, o13, o23, o33, o43, o53, o63, o71), o04, o05))))
        (some (Sum.inl (v12, false, (o02, o12, o22, o32, o42, o52, o62), (o03, o13, o23, o33, o43, o53, o63, o71), o04, o05)))) fun (v13, v56, (o06, o14, o24, o34, o44, o54, o64), (o07, o15, o25, o35, o45, o55, o65, o72), o08, o09) =>
      cndO (v56)
       (some (Sum.inr false))
       (cndO (decide (o08 = [(98 : UInt8), (101 : UInt8), (103 : UInt8), (105 : UInt8), (110 : UInt8)]))
        (cndO (!decide (o07 = (1 : Int)))
         (some (Sum.inr false))
         (cndO (!decide (o09 = [(40 : UInt8), (41 : UInt8), (86 : UInt8)]))
          (some (Sum.inr false))
          (some (Sum.inl (v13, (o06, o14, o24, o34, o44, o54, o64), o08, o09)))))
        (some (Sum.inl (v13, (o06, o14, o24, o34, o44, o54, o64), o08, o09)))))) fun (v12, (o02, o12, o22, o32, o42, o52, o62), o03, o04) =>
    grdO (decide ((0 : Int) ≤ v12) && decide (v12 ≤ (o62.length : Int))) (bindO (F170168 (List.drop (0 : Nat) (List.take v12.toNat o62), (o02, o12, o22, o32, o42, o52, o62), o03, o04)) fun (y2, (y3, y4, y5, y6, y7, x1, x2), x3, x4) =>
    some (!y2)))))
    (seqU (seqU (grdO (decide (o0 = o0) && (decide (o1 = o1) && (decide (o2 = o2) && (decide (o3 = o3) && (decide (o4 = o4) && (decide (o5 = o5) && (decide (o6 = o6) && true))))))) (some (()))) (seqU (grdO (decide (o11 = o11)) (some (()))) (seqU (grdO (decide (o0 = o0) && (decide (o1 = o1) && (decide (o2 = o2) && (decide (o3 = o3) && (decide (o4 = o4) && (decide (o5 = o5) && (decide (o6 = o6) && true))))))) (some (()))) (seqU (grdO (decide (o21 = o21)) (some (()))) (some (())))))) (seqU (seqU (grdO (decide (o0 = o0) && (decide (o1 = o1) && (decide (o2 = o2) && (decide (o3 = o3) && (decide (o4 = o4) && (decide (o5 = o5) && (decide (o6 = o6) && true))))))) (some (()))) (seqU (grdO (decide (o11 = o11)) (some (()))) (seqU (grdO (decide (o0 = o0) && (decide (o1 = o1) && (decide (o2 = o2) && (decide (o3 = o3) && (decide (o4 = o4) && (decide (o5 = o5) && (decide (o6 = o6) && true))))))) (some (()))) (seqU (grdO (decide (o21 = o21)) (some (()))) (some (())))))) (bindE (Y := Int × (Cls) × List UInt8 × List UInt8) (bindE (Y := Int × Bool × (Cls) × (Mth) × List UInt8 × List UInt8) (bindO (F86 o01) fun y2 =>
      cndO (y2)
       (cndO (!decide (o01 = (8 : Int)))
        (some (Sum.inl (v11, true, (o0, o1, o2, o3, o4, o5, o6), (o01, o11, o21, o31, o41, o51, o61, o7), y, y1)))
        (some (Sum.inl (v11, decide (andI IntKind.i64 o1 (4 : Int) = (0 : Int)), (o0, o1, o2, o3, o4, o5, o6), (o01, o11, o21, o31, o41, o51, o61, o7), y, y1))))
       (some (Sum.inl (v11, false, (o0, o1, o2, o3, o4, o5, o6), (o01, o11, o21, o31, o41, o51, o61, o7), y, y1)))) fun (v12, v41, (o02, o12, o22, o32, o42, o52, o62), (o03, o13, o23, o33, o43, o53, o63, o71), o04, o05) =>
     cndO (v41)
      (some (Sum.inr false))
      (bindE (Y := Int × Bool × (Cls) × (Mth) × List UInt8 × List UInt8) (bindO (F86 o03) fun y2 =>
       cndO (!y2)
        (bindO (F165 (o02, o12, o22, o32, o42, o52, o62)) fun y3 =>
        cndO (y3)
         (some (Sum.inl (v12, !decide (o03 = (1 : Int)), (o02, o12, o22, o32, o42, o52, o62), (o03, o13, o23, o33, o43, o53, o63, o71), o04, o05)))
         (some (Sum.inl (v12, false, (o02, o12, o22, o32, o42, o52, o62), (o03, o13, o23, o33, o43, o53, o63, o71), o04, o05))))
        (some (Sum.inl (v12, false, (o02, o12, o22, o32, o42, o52, o62), (o03, o13, o23, o33, o43, o53, o63, o71), o04, o05)))) fun (v13, v56, (o06, o14, o24, o34, o44, o54, o64), (o07, o15, o25, o35, o45, o55, o65, o72), o08, o09) =>
      cndO (v56)
       (some (Sum.inr false))
       (cndO (decide (o08 = [(98 : UInt8), (101 : UInt8), (103 : UInt8), (105 : UInt8), (110 : UInt8)]))
        (cndO (!decide (o07 = (1 : Int)))
         (some (Sum.inr false))
         (cndO (!decide (o09 = [(40 : UInt8), (41 : UInt8), (86 : UInt8)]))
          (some (Sum.inr false))
          (some (Sum.inl (v13, (o06, o14, o24, o34, o44, o54, o64), o08, o09)))))
        (some (Sum.inl (v13, (o06, o14, o24, o34, o44, o54, o64), o08, o09)))))) fun (v12, (o02, o12, o22, o32, o42, o52, o62), o03, o04) =>
    grdO (decide ((0 : Int) ≤ v12) && decide (v12 ≤ (o62.length : Int))) (bindO (F170168 (List.drop (0 : Nat) (List.take v12.toNat o62), (o02, o12, o22, o32, o42, o52, o62), o03, o04)) fun (y2, (y3, y4, y5, y6, y7, x1, x2), x3, x4) =>
    some (!y2))))))
   (bothO
    (seqU (seqU (grdO (decide (o0 = o0) && (decide (o1 = o1) && (decide (o2 = o2) && (decide (o3 = o3) && (decide (o4 = o4) && (decide (o5 = o5) && (decide (o6 = o6) && true))))))) (some (()))) (seqU (grdO (decide (o11 = o11)) (some (()))) (seqU (grdO (decide (o0 = o0) && (decide (o1 = o1) && (decide (o2 = o2) && (decide (o3 = o3) && (decide (o4 = o4) && (decide (o5 = o5) && (decide (o6 = o6) && true))))))) (some (()))) (seqU (grdO (decide (o21 = o21)) (some (()))) (some (())))))) (bothO
     (bindO (F111 ((o0, o1, o2, o3, o4, o5, o6), o21)) fun y1 =>
     seqU (seqU (grdO (decide (o0 = o0) && (decide (o1 = o1) && (decide (o2 = o2) && (decide (o3 = o3) && (decide (o4 = o4) && (decide (o5 = o5) && (decide (o6 = o6) && true))))))) (some (()))) (seqU (grdO (decide (o11 = o11)) (some (()))) (seqU (grdO (decide (o0 = o0) && (decide (o1 = o1) && (decide (o2 = o2) && (decide (o3 = o3) && (decide (o4 = o4) && (decide (o5 = o5) && (decide (o6 = o6) && true))))))) (some (()))) (seqU (grdO (decide (o21 = o21)) (some (()))) (some (())))))) (bindE (Y := Int × (Cls) × List UInt8 × List UInt8) (bindE (Y := Int × Bool × (Cls) × (Mth) × List UInt8 × List UInt8) (bindO (F86 o01) fun y2 =>
       cndO (y2)
        (cndO (!decide (o01 = (8 : Int)))
         (some (Sum.inl (v11, true, (o0, o1, o2, o3, o4, o5, o6), (o01, o11, o21, o31, o41, o51, o61, o7), y, y1)))
         (some (Sum.inl (v11, decide (andI IntKind.i64 o1 (4 : Int) = (0 : Int)), (o0, o1, o2, o3, o4, o5, o6), (o01, o11, o21, o31, o41, o51, o61, o7), y, y1))))
        (some (Sum.inl (v11, false, (o0, o1, o2, o3, o4, o5, o6), (o01, o11, o21, o31, o41, o51, o61, o7), y, y1)))) fun (v12, v41, (o02, o12, o22, o32, o42, o52, o62), (o03, o13, o23, o33, o43, o53, o63, o71), o04, o05) =>
      cndO (v41)
       (some (Sum.inr false))
       (bindE (Y := Int × Bool × (Cls) × (Mth) × List UInt8 × List UInt8) (bindO (F86 o03) fun y2 =>
        cndO (!y2)
         (bindO (F165 (o02, o12, o22, o32, o42, o52, o62)) fun y3 =>
         cndO (y3)
          (some (Sum.inl (v12, !decide (o03 = (1 : Int)), (o02, o12, o22, o32, o42, o52, o62), (o03, o13, o23, o33, o43, o53, o63, o71), o04, o05)))
          (some (Sum.inl (v12, false, (o02, o12, o22, o32, o42, o52, o62), (o03, o13, o23, o33, o43, o53, o63, o71), o04, o05))))
         (some (Sum.inl (v12, false, (o02, o12, o22, o32, o42, o52, o62), (o03, o13, o23, o33, o43, o53, o63, o71), o04, o05)))) fun (v13, v56, (o06, o14, o24, o34, o44, o54, o64), (o07, o15, o25, o35, o45, o55, o65, o72), o08, o09) =>
       cndO (v56)
        (some (Sum.inr false))
        (cndO (decide (o08 = [(98 : UInt8), (101 : UInt8), (103 : UInt8), (105 : UInt8), (110 : UInt8)]))
         (cndO (!decide (o07 = (1 : Int)))
          (some (Sum.inr false))
          (cndO (!decide (o09 = [(40 : UInt8), (41 : UInt8), (86 : UInt8)]))
           (some (Sum.inr false))
           (some (Sum.inl (v13, (o06, o14, o24, o34, o44, o54, o64), o08, o09)))))
         (some (Sum.inl (v13, (o06, o14, o24, o34, o44, o54, o64), o08, o09)))))) fun (v12, (o02, o12, o22, o32, o42, o52, o62), o03, o04) =>
     grdO (decide ((0 : Int) ≤ v12) && decide (v12 ≤ (o62.length : Int))) (bindO (F170168 (List.drop (0 : Nat) (List.take v12.toNat o62), (o02, o12, o22, o32, o42, o52, o62), o03, o04)) fun (y2, (y3, y4, y5, y6, y7, x1, x2), x3, x4) =>
     some (!y2))))
     (seqU (seqU (grdO (decide (o0 = o0) && (decide (o1 = o1) && (decide (o2 = o2) && (decide (o3 = o3) && (decide (o4 = o4) && (decide (o5 = o5) && (decide (o6 = o6) && true))))))) (some (()))) (seqU (grdO (decide (o11 = o11)) (some (()))) (seqU (grdO (decide (o0 = o0) && (decide (o1 = o1) && (decide (o2 = o2) && (decide (o3 = o3) && (decide (o4 = o4) && (decide (o5 = o5) && (decide (o6 = o6) && true))))))) (some (()))) (seqU (grdO (decide (o21 = o21)) (some (()))) (some (())))))) (bindO (F111 ((o0, o1, o2, o3, o4, o5, o6), o21)) fun y1 =>
     bindE (Y := Int × (Cls) × List UInt8 × List UInt8) (bindE (Y := Int × Bool × (Cls) × (Mth) × List UInt8 × List UInt8) (bindO (F86 o01) fun y2 =>
       cndO (y2)
        (cndO (!decide (o01 = (8 : Int)))
         (some (Sum.inl (v11, true, (o0, o1, o2, o3, o4, o5, o6), (o01, o11, o21, o31, o41, o51, o61, o7), y, y1)))
         (some (Sum.inl (v11, decide (andI IntKind.i64 o1 (4 : Int) = (0 : Int)), (o0, o1, o2, o3, o4, o5, o6), (o01, o11, o21, o31, o41, o51, o61, o7), y, y1))))
        (some (Sum.inl (v11, false, (o0, o1, o2, o3, o4, o5, o6), (o01, o11, o21, o31, o41, o51, o61, o7), y, y1)))) fun (v12, v41, (o02, o12, o22, o32, o42, o52, o62), (o03, o13, o23, o33, o43, o53, o63, o71), o04, o05) =>
      cndO (v41)
       (some (Sum.inr false))
       (bindE (Y := Int × Bool × (Cls) × (Mth) × List UInt8 × List UInt8) (bindO (F86 o03) fun y2 =>
        cndO (!y2)
         (bindO (F165 (o02, o12, o22, o32, o42, o52, o62)) fun y3 =>
         cndO (y3)
          (some (Sum.inl (v12, !decide (o03 = (1 : Int)), (o02, o12, o22, o32, o42, o52, o62), (o03, o13, o23, o33, o43, o53, o63, o71), o04, o05)))
          (some (Sum.inl (v12, false, (o02, o12, o22, o32, o42, o52, o62), (o03, o13, o23, o33, o43, o53, o63, o71), o04, o05))))
         (some (Sum.inl (v12, false, (o02, o12, o22, o32, o42, o52, o62), (o03, o13, o23, o33, o43, o53, o63, o71), o04, o05)))) fun (v13, v56, (o06, o14, o24, o34, o44, o54, o64), (o07, o15, o25, o35, o45, o55, o65, o72), o08, o09) =>
       cndO (v56)
        (some (Sum.inr false))
        (cndO (decide (o08 = [(98 : UInt8), (101 : UInt8), (103 : UInt8), (105 : UInt8), (110 : UInt8)]))
         (cndO (!decide (o07 = (1 : Int)))
          (some (Sum.inr false))
          (cndO (!decide (o09 = [(40 : UInt8), (41 : UInt8), (86 : UInt8)]))
           (some (Sum.inr false))
           (some (Sum.inl (v13, (o06, o14, o24, o34, o44, o54, o64), o08, o09)))))
         (some (Sum.inl (v13, (o06, o14, o24, o34, o44, o54, o64), o08, o09)))))) fun (v12, (o02, o12, o22, o32, o42, o52, o62), o03, o04) =>
     grdO (decide ((0 : Int) ≤ v12) && decide (v12 ≤ (o62.length : Int))) (bindO (F170168 (List.drop (0 : Nat) (List.take v12.toNat o62), (o02, o12, o22, o32, o42, o52, o62), o03, o04)) fun (y2, (y3, y4, y5, y6, y7, x1, x2), x3, x4) =>
     some (!y2))))))
    (seqU (seqU (grdO (decide (o0 = o0) && (decide (o1 = o1) && (decide (o2 = o2) && (decide (o3 = o3) && (decide (o4 = o4) && (decide (o5 = o5) && (decide (o6 = o6) && true))))))) (some (()))) (seqU (grdO (decide (o11 = o11)) (some (()))) (seqU (grdO (decide (o0 = o0) && (decide (o1 = o1) && (decide (o2 = o2) && (decide (o3 = o3) && (decide (o4 = o4) && (decide (o5 = o5) && (decide (o6 = o6) && true))))))) (some (()))) (seqU (grdO (decide (o21 = o21)) (some (()))) (some (())))))) (bothO
     (bindO (F111 ((o0, o1, o2, o3, o4, o5, o6), o21)) fun y1 =>
     seqU (seqU (grdO (decide (o0 = o0) && (decide (o1 = o1) && (decide (o2 = o2) && (decide (o3 = o3) && (decide (o4 = o4) && (decide (o5 = o5) && (decide (o6 = o6) && true))))))) (some (()))) (seqU (grdO (decide (o11 = o11)) (some (()))) (seqU (grdO (decide (o0 = o0) && (decide (o1 = o1) && (decide (o2 = o2) && (decide (o3 = o3) && (decide (o4 = o4) && (decide (o5 = o5) && (decide (o6 = o6) && true))))))) (some (()))) (seqU (grdO (decide (o21 = o21)) (some (()))) (some (())))))) (bindE (Y := Int × (Cls) × List UInt8 × List UInt8) (bindE (Y := Int × Bool × (Cls) × (Mth) × List UInt8 × List UInt8) (bindO (F86 o01) fun y2 =>
       cndO (y2)
        (cndO (!decide (o01 = (8 : Int)))
         (some (Sum.inl (v11, true, (o0, o1, o2, o3, o4, o5, o6), (o01, o11, o21, o31, o41, o51, o61, o7), y, y1)))
         (some (Sum.inl (v11, decide (andI IntKind.i64 o1 (4 : Int) = (0 : Int)), (o0, o1, o2, o3, o4, o5, o6), (o01, o11, o21, o31, o41, o51, o61, o7), y, y1))))
        (some (Sum.inl (v11, false, (o0, o1, o2, o3, o4, o5, o6), (o01, o11, o21, o31, o41, o51, o61, o7), y, y1)))) fun (v12, v41, (o02, o12, o22, o32, o42, o52, o62), (o03, o13, o23, o33, o43, o53, o63, o71), o04, o05) =>
      cndO (v41)
       (some (Sum.inr false))
       (bindE (Y := Int × Bool × (Cls) × (Mth) × List UInt8 × List UInt8) (bindO (F86 o03) fun y2 =>
        cndO (!y2)
         (bindO (F165 (o02, o12, o22, o32, o42, o52, o62)) fun y3 =>
         cndO (y3)
          (some (Sum.inl (v12, !decide (o03 = (1 : Int)), (o02, o12, o22, o32, o42, o52, o62), (o03, o13, o23, o33, o43, o53, o63, o71), o04, o05)))
          (some (Sum.inl (v12, false, (o02, o12, o22, o32, o42, o52, o62), (o03, o13, o23, o33, o43, o53, o63, o71), o04, o05))))
         (some (Sum.inl (v12, false, (o02, o12, o22, o32, o42, o52, o62), (o03, o13, o23, o33, o43, o53, o63, o71), o04, o05)))) fun (v13, v56, (o06, o14, o24, o34, o44, o54, o64), (o07, o15, o25, o35, o45, o55, o65, o72), o08, o09) =>
       cndO (v56)
        (some (Sum.inr false))
        (cndO (decide (o08 = [(98 : UInt8), (101 : UInt8), (103 : UInt8), (105 : UInt8), (110 : UInt8)]))
         (cndO (!decide (o07 = (1 : Int)))
          (some (Sum.inr false))
          (cndO (!decide (o09 = [(40 : UInt8), (41 : UInt8), (86 : UInt8)]))
           (some (Sum.inr false))
           (some (Sum.inl (v13, (o06, o14, o24, o34, o44, o54, o64), o08, o09)))))
         (some (Sum.inl (v13, (o06, o14, o24, o34, o44, o54, o64), o08, o09)))))) fun (v12, (o02, o12, o22, o32, o42, o52, o62), o03, o04) =>
     grdO (decide ((0 : Int) ≤ v12) && decide (v12 ≤ (o62.length : Int))) (bindO (F170168 (List.drop (0 : Nat) (List.take v12.toNat o62), (o02, o12, o22, o32, o42, o52, o62), o03, o04)) fun (y2, (y3, y4, y5, y6, y7, x1, x2), x3, x4) =>
     some (!y2))))
     (seqU (seqU (grdO (decide (o0 = o0) && (decide (o1 = o1) && (decide (o2 = o2) && (decide (o3 = o3) && (decide (o4 = o4) && (decide (o5 = o5) && (decide (o6 = o6) && true))))))) (some (()))) (seqU (grdO (decide (o11 = o11)) (some (()))) (seqU (grdO (decide (o0 = o0) && (decide (o1 = o1) && (decide (o2 = o2) && (decide (o3 = o3) && (decide (o4 = o4) && (decide (o5 = o5) && (decide (o6 = o6) && true))))))) (some (()))) (seqU (grdO (decide (o21 = o21)) (some (()))) (some (())))))) (bindO (F111 ((o0, o1, o2, o3, o4, o5, o6), o21)) fun y1 =>
     bindE (Y := Int × (Cls) × List UInt8 × List UInt8) (bindE (Y := Int × Bool × (Cls) × (Mth) × List UInt8 × List UInt8) (bindO (F86 o01) fun y2 =>
       cndO (y2)
        (cndO (!decide (o01 = (8 : Int)))
         (some (Sum.inl (v11, true, (o0, o1, o2, o3, o4, o5, o6), (o01, o11, o21, o31, o41, o51, o61, o7), y, y1)))
         (some (Sum.inl (v11, decide (andI IntKind.i64 o1 (4 : Int) = (0 : Int)), (o0, o1, o2, o3, o4, o5, o6), (o01, o11, o21, o31, o41, o51, o61, o7), y, y1))))
        (some (Sum.inl (v11, false, (o0, o1, o2, o3, o4, o5, o6), (o01, o11, o21, o31, o41, o51, o61, o7), y, y1)))) fun (v12, v41, (o02, o12, o22, o32, o42, o52, o62), (o03, o13, o23, o33, o43, o53, o63, o71), o04, o05) =>
      cndO (v41)
       (some (Sum.inr false))
       (bindE (Y := Int × Bool × (Cls) × (Mth) × List UInt8 × List UInt8) (bindO (F86 o03) fun y2 =>
        cndO (!y2)
         (bindO (F165 (o02, o12, o22, o32, o42, o52, o62)) fun y3 =>
         cndO (y3)
          (some (Sum.inl (v12, !decide (o03 = (1 : Int)), (o02, o12, o22, o32, o42, o52, o62), (o03, o13, o23, o33, o43, o53, o63, o71), o04, o05)))
          (some (Sum.inl (v12, false, (o02, o12, o22, o32, o42, o52, o62), (o03, o13, o23, o33, o43, o53, o63, o71), o04, o05))))
         (some (Sum.inl (v12, false, (o02, o12, o22, o32, o42, o52, o62), (o03, o13, o23, o33, o43, o53, o63, o71), o04, o05)))) fun (v13, v56, (o06, o14, o24, o34, o44, o54, o64), (o07, o15, o25, o35, o45, o55, o65, o72), o08, o09) =>
       cndO (v56)
        (some (Sum.inr false))
        (cndO (decide (o08 = [(98 : UInt8), (101 : UInt8), (103 : UInt8), (105 : UInt8), (110 : UInt8)]))
         (cndO (!decide (o07 = (1 : Int)))
          (some (Sum.inr false))
          (cndO (!decide (o09 = [(40 : UInt8), (41 : UInt8), (86 : UInt8)]))
           (some (Sum.inr false))
           (some (Sum.inl (v13, (o06, o14, o24, o34, o44, o54, o64), o08, o09)))))
         (some (Sum.inl (v13, (o06, o14, o24, o34, o44, o54, o64), o08, o09)))))) fun (v12, (o02, o12, o22, o32, o42, o52, o62), o03, o04) =>
     grdO (decide ((0 : Int) ≤ v12) && decide (v12 ≤ (o62.length : Int))) (bindO (F170168 (List.drop (0 : Nat) (List.take v12.toNat o62), (o02, o12, o22, o32, o42, o52, o62), o03, o04)) fun (y2, (y3, y4, y5, y6, y7, x1, x2), x3, x4) =>
     some (!y2)))))))))
  (bothO
   (seqU (seqU (grdO (decide (o0 = o0) && (decide (o1 = o1) && (decide (o2 = o2) && (decide (o3 = o3) && (decide (o4 = o4) && (decide (o5 = o5) && (decide (o6 = o6) && true))))))) (some (()))) (seqU (grdO (decide (o11 = o11)) (some (()))) (seqU (grdO (decide (o0 = o0) && (decide (o1 = o1) && (decide (o2 = o2) && (decide (o3 = o3) && (decide (o4 = o4) && (decide (o5 = o5) && (decide (o6 = o6) && true))))))) (some (()))) (seqU (grdO (decide (o21 = o21)) (some (()))) (some (())))))) (bothO
    (bindO (F111 ((o0, o1, o2, o3, o4, o5, o6), o11)) fun y =>
    seqU (seqU (grdO (decide (o0 = o0) && (decide (o1 = o1) && (decide (o2 = o2) && (decide (o3 = o3) && (decide (o4 = o4) && (decide (o5 = o5) && (decide (o6 = o6) && true))))))) (some (()))) (seqU (grdO (decide (o21 = o21)) (some (()))) (some (())))) (bothO
     (bindO (F111 ((o0, o1, o2, o3, o4, o5, o6), o21)) fun y1 =>
     seqU (seqU (grdO (decide (o0 = o0) && (decide (o1 = o1) && (decide (o2 = o2) && (decide (o3 = o3) && (decide (o4 = o4) && (decide (o5 = o5) && (decide (o6 = o6) && true))))))) (some (()))) (seqU (grdO (decide (o11 = o11)) (some (()))) (seqU (grdO (decide (o0 = o0) && (decide (o1 = o1) && (decide (o2 = o2) && (decide (o3 = o3) && (decide (o4 = o4) && (decide (o5 = o5) && (decide (o6 = o6) && true))))))) (some (()))) (seqU (grdO (decide (o21 = o21)) (some (()))) (some (())))))) (bindE (Y := Int × (Cls) × List UInt8 × List UInt8) (bindE (Y := Int × Bool × (Cls) × (Mth) × List UInt8 × List UInt8) (bindO (F86 o01) fun y2 =>
       cndO (y2)
        (cndO (!decide (o01 = (8 : Int)))
         (some (Sum.inl (v11, true, (o0, o1, o2, o3, o4, o5, o6), (o01, o11, o21, o31, o41, o51, o61, o7), y, y1)))
         (some (Sum.inl (v11, decide (andI IntKind.i64 o1 (4 : Int) = (0 : Int)), (o0, o1, o2, o3, o4, o5, o6), (o01, o11, o21, o31, o41, o51, o61, o7), y, y1))))
        (some (Sum.inl (v11, false, (o0, o1, o2, o3, o4, o5, o6), (o01, o11, o21, o31, o41, o51, o61, o7), y, y1)))) fun (v12, v41, (o02, o12, o22, o32, o42, o52, o62), (o03, o13, o23, o33, o43, o53, o63, o71), o04, o05) =>
      cndO (v41)
       (some (Sum.inr false))
       (bindE (Y := Int × Bool × (Cls) × (Mth) × List UInt8 × List UInt8) (bindO (F86 o03) fun y2 =>
        cndO (!y2)
         (bindO (F165 (o02, o12, o22, o32, o42, o52, o62)) fun y3 =>
         cndO (y3)
          (some (Sum.inl (v12, !decide (o03 = (1 : Int)), (o02, o12, o22, o32, o42, o52, o62), (o03, o13, o23, o33, o43, o53, o63, o71), o04, o05)))
          (some (Sum.inl (v12, false, (o02, o12, o22, o32, o42, o52, o62), (o03, o13, o23, o33, o43, o53, o63, o71), o04, o05))))
         (some (Sum.inl (v12, false, (o02, o12, o22, o32, o42, o52, o62), (o03, o13, o23, o33, o43, o53, o63, o71), o04, o05)))) fun (v13, v56, (o06, o14, o24, o34, o44, o54, o64), (o07, o15, o25, o35, o45, o55, o65, o72), o08, o09) =>
       cndO (v56)
        (some (Sum.inr false))
        (cndO (decide (o08 = [(98 : UInt8), (101 : UInt8), (103 : UInt8), (105 : UInt8), (110 : UInt8)]))
         (cndO (!decide (o07 = (1 : Int)))
          (some (Sum.inr false))
          (cndO (!decide (o09 = [(40 : UInt8), (41 : UInt8), (86 : UInt8)]))
           (some (Sum.inr false))
           (some (Sum.inl (v13, (o06, o14, o24, o34, o44, o54, o64), o08, o09)))))
         (some (Sum.inl (v13, (o06, o14, o24, o34, o44, o54, o64), o08, o09)))))) fun (v12, (o02, o12, o22, o32, o42, o52, o62), o03, o04) =>
     grdO (decide ((0 : Int) ≤ v12) && decide (v12 ≤ (o62.length : Int))) (bindO (F170168 (List.drop (0 : Nat) (List.take v12.toNat o62), (o02, o12, o22, o32, o42, o52, o62), o03, o04)) fun (y2, (y3, y4, y5, y6, y7, x1, x2), x3, x4) =>
     some (!y2))))
     (seqU (seqU (grdO (decide (o0 = o0) && (decide (o1 = o1) && (decide (o2 = o2) && (decide (o3 = o3) && (decide (o4 = o4) && (decide (o5 = o5) && (decide (o6 = o6) && true))))))) (some (()))) (seqU (grdO (decide (o11 = o11)) (some (()))) (seqU (grdO (decide (o0 = o0) && (decide (o1 = o1) && (decide (o2 = o2) && (decide (o3 = o3) && (decide (o4 = o4) && (decide (o5 = o5) && (decide (o6 = o6) && true))))))) (some (()))) (seqU (grdO (decide (o21 = o21)) (some (()))) (some (())))))) (bindO (F111 ((o0, o1, o2, o3, o4, o5, o6), o21)) fun y1 =>
     bindE (Y := Int × (Cls) × List UInt8 × List UInt8) (bindE (Y := Int × Bool × (Cls) × (Mth) × List UInt8 × List UInt8) (bindO (F86 o01) fun y2 =>
       cndO (y2)
        (cndO (!decide (o01 = (8 : Int)))
         (some (Sum.inl (v11, true, (o0, o1, o2, o3, o4, o5, o6), (o01, o11, o21, o31, o41, o51, o61, o7), y, y1)))
         (some (Sum.inl (v11, decide (andI IntKind.i64 o1 (4 : Int) = (0 : Int)), (o0, o1, o2, o3, o4, o5, o6), (o01, o11, o21, o31, o41, o51, o61, o7), y, y1))))
        (some (Sum.inl (v11, false, (o0, o1, o2, o3, o4, o5, o6), (o01, o11, o21, o31, o41, o51, o61, o7), y, y1)))) fun (v12, v41, (o02, o12, o22, o32, o42, o52, o62), (o03, o13, o23, o33, o43, o53, o63, o71), o04, o05) =>
      cndO (v41)
       (some (Sum.inr false))
       (bindE (Y := Int × Bool × (Cls) × (Mth) × List UInt8 × List UInt8) (bindO (F86 o03) fun y2 =>
        cndO (!y2)
         (bindO (F165 (o02, o12, o22, o32, o42, o52, o62)) fun y3 =>
         cndO (y3)
          (some (Sum.inl (v12, !decide (o03 = (1 : Int)), (o02, o12, o22, o32, o42, o52, o62), (o03, o13, o23, o33, o43, o53, o63, o71), o04, o05)))
          (some (Sum.inl (v12, false, (o02, o12, o22, o32, o42, o52, o62), (o03, o13, o23, o33, o43, o53, o63, o71), o04, o05))))
         (some (Sum.inl (v12, false, (o02, o12, o22, o32, o42, o52, o62), (o03, o13, o23, o33, o43, o53, o63, o71), o04, o05)))) fun (v13, v56, (o06, o14, o24, o34, o44, o54, o64), (o07, o15, o25, o35, o45, o55, o65, o72), o08, o09) =>
       cndO (v56)
        (some (Sum.inr false))
        (cndO (decide (o08 = [(98 : UInt8), (101 : UInt8), (103 : UInt8), (105 : UInt8), (110 : UInt8)]))
         (cndO (!decide (o07 = (1 : Int)))
          (some (Sum.inr false))
          (cndO (!decide (o09 = [(40 : UInt8), (41 : UInt8), (86 : UInt8)]))
           (some (Sum.inr false))
           (some (Sum.inl (v13, (o06, o14, o24, o34, o44, o54, o64), o08, o09)))))
         (some (Sum.inl (v13, (o06, o14, o24, o34, o44, o54, o64), o08, o09)))))) fun (v12, (o02, o12, o22, o32, o42, o52, o62), o03, o04) =>
     grdO (decide ((0 : Int) ≤ v12) && decide (v12 ≤ (o62.length : Int))) (bindO (F170168 (List.drop (0 : Nat) (List.take v12.toNat o62), (o02, o12, o22, o32, o42, o52, o62), o03, o04)) fun (y2, (y3, y4, y5, y6, y7, x1, x2), x3, x4) =>
     some (!y2))))))
    (seqU (seqU (grdO (decide (o0 = o0) && (decide (o1 = o1) && (decide (o2 = o2) && (decide (o3 = o3) && (decide (o4 = o4) && (decide (o5 = o5) && (decide (o6 = o6) && true))))))) (some (()))) (seqU (grdO (decide (o11 = o11)) (some (()))) (seqU (grdO (decide (o0 = o0) && (decide (o1 = o1) && (decide (o2 = o2) && (decide (o3 = o3) && (decide (o4 = o4) && (decide (o5 = o5) && (decide (o6 = o6) && true))))))) (some (()))) (seqU (grdO (decide (o21 = o21)) (some (()))) (some (())))))) (bindO (F111 ((o0, o1, o2, o3, o4, o5, o6), o11)) fun y =>
    seqU (seqU (grdO (decide (o0 = o0) && (decide (o1 = o1) && (decide (o2 = o2) && (decide (o3 = o3) && (decide (o4 = o4) && (decide (o5 = o5) && (decide (o6 = o6) && true))))))) (some (()))) (seqU (grdO (decide (o21 = o21)) (some (()))) (some (())))) (bindO (F111 ((o0, o1, o2, o3, o4, o5, o6), o21)) fun y1 =>
    bindE (Y := Int × (Cls) × List UInt8 × List UInt8) (bindE (Y := Int × Bool × (Cls) × (Mth) × List UInt8 × List UInt8) (bindO (F86 o01) fun y2 =>
      cndO (y2)
       (cndO (!decide (o01 = (8 : Int)))
        (some (Sum.inl (v11, true, (o0, o1, o2, o3, o4, o5, o6), (o01, o11, o21, o31, o41, o51, o61, o7), y, y1)))
        (some (Sum.inl (v11, decide (andI IntKind.i64 o1 (4 : Int) = (0 : Int)), (o0, o1, o2, o3, o4, o5, o6), (o01, o11, o21, o31, o41, o51, o61, o7), y, y1))))
       (some (Sum.inl (v11, false, (o0, o1, o2, o3, o4, o5, o6), (o01, o11, o21, o31, o41, o51, o61, o7), y, y1)))) fun (v12, v41, (o02, o12, o22, o32, o42, o52, o62), (o03, o13, o23, o33, o43, o53, o63, o71), o04, o05) =>
     cndO (v41)
      (some (Sum.inr false))
      (bindE (Y := Int × Bool × (Cls) × (Mth) × List UInt8 × List UInt8) (bindO (F86 o03) fun y2 =>
       cndO (!y2)
        (bindO (F165 (o02, o12, o22, o32, o42, o52, o62)) fun y3 =>
        cndO (y3)
         (some (Sum.inl (v12, !decide (o03 = (1 : Int)), (o02, o12, o22, o32, o42, o52, o62), (o03, o13, o23, o33, o43, o53, o63, o71), o04, o05)))
         (some (Sum.inl (v12, false, (o02, o12, o22, o32, o42, o52, o62), (o03, o13, o23, o33, o43, o53, o63, o71), o04, o05))))
        (some (Sum.inl (v12, false, (o02, o12, o22, o32, o42, o52, o62), (o03, o13, o23, o33, o43, o53, o63, o71), o04, o05)))) fun (v13, v56, (o06, o14, o24, o34, o44, o54, o64), (o07, o15, o25, o35, o45, o55, o65, o72), o08, o09) =>
      cndO (v56)
       (some (Sum.inr false))
       (cndO (decide (o08 = [(98 : UInt8), (101 : UInt8), (103 : UInt8), (105 : UInt8), (110 : UInt8)]))
        (cndO (!decide (o07 = (1 : Int)))
         (some (Sum.inr false))
         (cndO (!decide (o09 = [(40 : UInt8), (41 : UInt8), (86 : UInt8)]))
          (some (Sum.inr false))
          (some (Sum.inl (v13, (o06, o14, o24, o34, o44, o54, o64), o08, o09)))))
        (some (Sum.inl (v13, (o06, o14, o24, o34, o44, o54, o64), o08, o09)))))) fun (v12, (o02, o12, o22, o32, o42, o52, o62), o03, o04) =>
    grdO (decide ((0 : Int) ≤ v12) && decide (v12 ≤ (o62.length : Int))) (bindO (F170168 (List.drop (0 : Nat) (List.take v12.toNat o62), (o02, o12, o22, o32, o42, o52, o62), o03, o04)) fun (y2, (y3, y4, y5, y6, y7, x1, x2), x3, x4) =>
    some (!y2)))))))
   (seqU (seqU (grdO (decide (o0 = o0) && (decide (o1 = o1) && (decide (o2 = o2) && (decide (o3 = o3) && (decide (o4 = o4) && (decide (o5 = o5) && (decide (o6 = o6) && true))))))) (some (()))) (seqU (grdO (decide (o11 = o11)) (some (()))) (seqU (grdO (decide (o0 = o0) && (decide (o1 = o1) && (decide (o2 = o2) && (decide (o3 = o3) && (decide (o4 = o4) && (decide (o5 = o5) && (decide (o6 = o6) && true))))))) (some (()))) (seqU (grdO (decide (o21 = o21)) (some (()))) (some (())))))) (bothO
    (bindO (F111 ((o0, o1, o2, o3, o4, o5, o6), o11)) fun y =>
    seqU (seqU (grdO (decide (o0 = o0) && (decide (o1 = o1) && (decide (o2 = o2) && (decide (o3 = o3) && (decide (o4 = o4) && (decide (o5 = o5) && (decide (o6 = o6) && true))))))) (some (()))) (seqU (grdO (decide (o21 = o21)) (some (()))) (some (())))) (bothO
     (bindO (F111 ((o0, o1, o2, o3, o4, o5, o6), o21)) fun y1 =>
     seqU (seqU (grdO (decide (o0 = o0) && (decide (o1 = o1) && (decide (o2 = o2) && (decide (o3 = o3) && (decide (o4 = o4) && (decide (o5 = o5) && (decide (o6 = o6) && true))))))) (some (()))) (seqU (grdO (decide (o11 = o11)) (some (()))) (seqU (grdO (decide (o0 = o0) && (decide (o1 = o1) && (decide (o2 = o2) && (decide (o3 = o3) && (decide (o4 = o4) && (decide (o5 = o5) && (decide (o6 = o6) && true))))))) (some (()))) (seqU (grdO (decide (o21 = o21)) (some (()))) (some (())))))) (bindE (Y := Int × (Cls) × List UInt8 × List UInt8) (bindE (Y := Int × Bool × (Cls) × (Mth) × List UInt8 × List UInt8) (bindO (F86 o01) fun y2 =>
       cndO (y2)
        (cndO (!decide (o01 = (8 : Int)))
         (some (Sum.inl (v11, true, (o0, o1, o2, o3, o4, o5, o6), (o01, o11, o21, o31, o41, o51, o61, o7), y, y1)))
         (some (Sum.inl (v11, decide (andI IntKind.i64 o1 (4 : Int) = (0 : Int)), (o0, o1, o2, o3, o4, o5, o6), (o01, o11, o21, o31, o41, o51, o61, o7), y, y1))))
        (some (Sum.inl (v11, false, (o0, o1, o2, o3, o4, o5, o6), (o01, o11, o21, o31, o41, o51, o61, o7), y, y1)))) fun (v12, v41, (o02, o12, o22, o32, o42, o52, o62), (o03, o13, o23, o33, o43, o53, o63, o71), o04, o05) =>
      cndO (v41)
       (some (Sum.inr false))
       (bindE (Y := Int × Bool × (Cls) × (Mth) × List UInt8 × List UInt8) (bindO (F86 o03) fun y2 =>
        cndO (!y2)
         (bindO (F165 (o02, o12, o22, o32, o42, o52, o62)) fun y3 =>
         cndO (y3)
          (some (Sum.inl (v12, !decide (o03 = (1 : Int)), (o02, o12, o22, o32, o42, o52, o62), (o03, o13, o23, o33, o43, o53, o63, o71), o04, o05)))
          (some (Sum.inl (v12, false, (o02, o12, o22, o32, o42, o52, o62), (o03, o13, o23, o33, o43, o53, o63, o71), o04, o05))))
         (some (Sum.inl (v12, false, (o02, o12, o22, o32, o42, o52, o62), (o03, o13, o23, o33, o43, o53, o63, o71), o04, o05)))) fun (v13, v56, (o06, o14, o24, o34, o44, o54, o64), (o07, o15, o25, o35, o45, o55, o65, o72), o08, o09) =>
       cndO (v56)
        (some (Sum.inr false))
        (cndO (decide (o08 = [(98 : UInt8), (101 : UInt8), (103 : UInt8), (105 : UInt8), (110 : UInt8)]))
         (cndO (!decide (o07 = (1 : Int)))
          (some (Sum.inr false))
          (cndO (!decide (o09 = [(40 : UInt8), (41 : UInt8), (86 : UInt8)]))
           (some (Sum.inr false))
           (some (Sum.inl (v13, (o06, o14, o24, o34, o44, o54, o64), o08, o09)))))
         (some (Sum.inl (v13, (o06, o14, o24, o34, o44, o54, o64), o08, o09)))))) fun (v12, (o02, o12, o22, o32, o42, o52, o62), o03, o04) =>
     grdO (decide ((0 : Int) ≤ v12) && decide (v12 ≤ (o62.length : Int))) (bindO (F170168 (List.drop (0 : Nat) (List.take v12.toNat o62), (o02, o12, o22, o32, o42, o52, o62), o03, o04)) fun (y2, (y3, y4, y5, y6, y7, x1, x2), x3, x4) =>
     some (!y2))))
     (seqU (seqU (grdO (decide (o0 = o0) && (decide (o1 = o1) && (decide (o2 = o2) && (decide (o3 = o3) && (decide (o4 = o4) && (decide (o5 = o5) && (decide (o6 = o6) && true))))))) (some (()))) (seqU (grdO (decide (o11 = o11)) (some (()))) (seqU (grdO (decide (o0 = o0) && (decide (o1 = o1) && (decide (o2 = o2) && (decide (o3 = o3) && (decide (o4 = o4) && (decide (o5 = o5) && (decide (o6 = o6) && true))))))) (some (()))) (seqU (grdO (decide (o21 = o21)) (some (()))) (some (())))))) (bindO (F111 ((o0, o1, o2, o3, o4, o5, o6), o21)) fun y1 =>
     bindE (Y := Int × (Cls) × List UInt8 × List UInt8) (bindE (Y := Int × Bool × (Cls) × (Mth) × List UInt8 × List UInt8) (bindO (F86 o01) fun y2 =>
       cndO (y2)
        (cndO (!decide (o01 = (8 : Int)))
         (some (Sum.inl (v11, true, (o0, o1, o2, o3, o4, o5, o6), (o01, o11, o21, o31, o41, o51, o61, o7), y, y1)))
         (some (Sum.inl (v11, decide (andI IntKind.i64 o1 (4 : Int) = (0 : Int)), (o0, o1, o2, o3, o4, o5, o6), (o01, o11, o21, o31, o41, o51, o61, o7), y, y1))))
        (some (Sum.inl (v11, false, (o0, o1, o2, o3, o4, o5, o6), (o01, o11, o21, o31, o41, o51, o61, o7), y, y1)))) fun (v12, v41, (o02, o12, o22, o32, o42, o52, o62), (o03, o13, o23, o33, o43, o53, o63, o71), o04, o05) =>
      cndO (v41)
       (some (Sum.inr false))
       (bindE (Y := Int × Bool × (Cls) × (Mth) × List UInt8 × List UInt8) (bindO (F86 o03) fun y2 =>
        cndO (!y2)
         (bindO (F165 (o02, o12, o22, o32, o42, o52, o62)) fun y3 =>
         cndO (y3)
          (some (Sum.inl (v12, !decide (o03 = (1 : Int)), (o02, o12, o22, o32, o42, o52, o62), (o03, o13, o23, o33, o43, o53, o63, o71), o04, o05)))
          (some (Sum.inl (v12, false, (o02, o12, o22, o32, o42, o52, o62), (o03, o13, o23, o33, o43, o53, o63, o71), o04, o05))))
         (some (Sum.inl (v12, false, (o02, o12, o22, o32, o42, o52, o62), (o03, o13, o23, o33, o43, o53, o63, o71), o04, o05)))) fun (v13, v56, (o06, o14, o24, o34, o44, o54, o64), (o07, o15, o25, o35, o45, o55, o65, o72), o08, o09) =>
       cndO (v56)
        (some (Sum.inr false))
        (cndO (decide (o08 = [(98 : UInt8), (101 : UInt8), (103 : UInt8), (105 : UInt8), (110 : UInt8)]))
         (cndO (!decide (o07 = (1 : Int)))
          (some (Sum.inr false))
          (cndO (!decide (o09 = [(40 : UInt8), (41 : UInt8), (86 : UInt8)]))
           (some (Sum.inr false))
           (some (Sum.inl (v13, (o06, o14, o24, o34, o44, o54, o64), o08, o09)))))
         (some (Sum.inl (v13, (o06, o14, o24, o34, o44, o54, o64), o08, o09)))))) fun (v12, (o02, o12, o22, o32, o42, o52, o62), o03, o04) =>
     grdO (decide ((0 : Int) ≤ v12) && decide (v12 ≤ (o62.length : Int))) (bindO (F170168 (List.drop (0 : Nat) (List.take v12.toNat o62), (o02, o12, o22, o32, o42, o52, o62), o03, o04)) fun (y2, (y3, y4, y5, y6, y7, x1, x2), x3, x4) =>
     some (!y2))))))
    (seqU (seqU (grdO (decide (o0 = o0) && (decide (o1 = o1) && (decide (o2 = o2) && (decide (o3 = o3) && (decide (o4 = o4) && (decide (o5 = o5) && (decide (o6 = o6) && true))))))) (some (()))) (seqU (grdO (decide (o11 = o11)) (some (()))) (seqU (grdO (decide (o0 = o0) && (decide (o1 = o1) && (decide (o2 = o2) && (decide (o3 = o3) && (decide (o4 = o4) && (decide (o5 = o5) && (decide (o6 = o6) && true))))))) (some (()))) (seqU (grdO (decide (o21 = o21)) (some (()))) (some (())))))) (bindO (F111 ((o0, o1, o2, o3, o4, o5, o6), o11)) fun y =>
    seqU (seqU (grdO (decide (o0 = o0) && (decide (o1 = o1) && (decide (o2 = o2) && (decide (o3 = o3) && (decide (o4 = o4) && (decide (o5 = o5) && (decide (o6 = o6) && true))))))) (some (()))) (seqU (grdO (decide (o21 = o21)) (some (()))) (some (())))) (bindO (F111 ((o0, o1, o2, o3, o4, o5, o6), o21)) fun y1 =>
    bindE (Y := Int × (Cls) × List UInt8 × List UInt8) (bindE (Y := Int × Bool × (Cls) × (Mth) × List UInt8 × List UInt8) (bindO (F86 o01) fun y2 =>
      cndO (y2)
       (cndO (!decide (o01 = (8 : Int)))
        (some (Sum.inl (v11, true, (o0, o1, o2, o3, o4, o5, o6), (o01, o11, o21, o31, o41, o51, o61, o7), y, y1)))
        (some (Sum.inl (v11, decide (andI IntKind.i64 o1 (4 : Int) = (0 : Int)), (o0, o1, o2, o3, o4, o5, o6), (o01, o11, o21, o31, o41, o51, o61, o7), y, y1))))
       (some (Sum.inl (v11, false, (o0, o1, o2, o3, o4, o5, o6), (o01, o11, o21, o31, o41, o51, o61, o7), y, y1)))) fun (v12, v41, (o02, o12, o22, o32, o42, o52, o62), (o03, o13, o23, o33, o43, o53, o63, o71), o04, o05) =>
     cndO (v41)
      (some (Sum.inr false))
      (bindE (Y := Int × Bool × (Cls) × (Mth) × List UInt8 × List UInt8) (bindO (F86 o03) fun y2 =>
       cndO (!y2)
        (bindO (F165 (o02, o12, o22, o32, o42, o52, o62)) fun y3 =>
        cndO (y3)
         (some (Sum.inl (v12, !decide (o03 = (1 : Int)), (o02, o12, o22, o32, o42, o52, o62), (o03, o13, o23, o33, o43, o53, o63, o71), o04, o05)))
         (some (Sum.inl (v12, false, (o02, o12, o22, o32, o42, o52, o62), (o03, o13, o23, o33, o43, o53, o63, o71), o04, o05))))
        (some (Sum.inl (v12, false, (o02, o12, o22, o32, o42, o52, o62), (o03, o13, o23, o33, o43, o53, o63, o71), o04, o05)))) fun (v13, v56, (o06, o14, o24, o34, o44, o54, o64), (o07, o15, o25, o35, o45, o55, o65, o72), o08, o09) =>
      cndO (v56)
       (some (Sum.inr false))
       (cndO (decide (o08 = [(98 : UInt8), (101 : UInt8), (103 : UInt8), (105 : UInt8), (110 : UInt8)]))
        (cndO (!decide (o07 = (1 : Int)))
         (some (Sum.inr false))
         (cndO (!decide (o09 = [(40 : UInt8), (41 : UInt8), (86 : UInt8)]))
          (some (Sum.inr false))
          (some (Sum.inl (v13, (o06, o14, o24, o34, o44, o54, o64), o08, o09)))))
        (some (Sum.inl (v13, (o06, o14, o24, o34, o44, o54, o64), o08, o09)))))) fun (v12, (o02, o12, o22, o32, o42, o52, o62), o03, o04) =>
    grdO (decide ((0 : Int) ≤ v12) && decide (v12 ≤ (o62.length : Int))) (bindO (F170168 (List.drop (0 : Nat) (List.take v12.toNat o62), (o02, o12, o22, o32, o42, o52, o62), o03, o04)) fun (y2, (y3, y4, y5, y6, y7, x1, x2), x3, x4) =>
    some (!y2)))))))))
theorem r85 (x : (Cls) × Int) : funT T tb170168 tp85 89 tv85 (bodyOf Tryz.f85) ti85 to85 x = F85 x := by kernel_rfl
def te85 : TEnt := ⟨85, true, [], ti85, to85.Den, F85, resF T [.tmp 4] 89 to85 []⟩
def tb85 : Nat → Option TEnt := insT 85 te85 tb170168
theorem ok85 : TbOk Tryz.prog tb85 := TbOk.ins ok170168 (fun_ok ok170168 layOk mixed true _ ti85 to85 [] tp85 tv85 Tryz.func85 rfl Tryz.results85 Tryz.ntmps85 (by kernel_rfl) (by kernel_rfl) Tryz.call85 F85 fun x _ h => (r85 x).trans h)
abbrev ti90 : SPat := ⟨[(0, .i .i64)], []⟩
abbrev to90 : SPat := ⟨[(2, .i .i64)], []⟩
abbrev ts90_1000004 : SPat := ⟨[(0, .i .i64), (6, .b)], []⟩
def tv90 : Nat → Option SPat := fun k => bif k == 1000004 then some ts90_1000004 else none
def F90 : Int → Option (Int) := fun op_ =>
 bindO (F89 (op_, (3 : Int), (6 : Int))) fun y =>
 cndO (y)
  (some ((1 : Int)))
  (bindE (cndO (decide (op_ = (1 : Int)))
    (some (Sum.inl (op_, true)))
    (bindO (F89 (op_, (14 : Int), (29 : Int))) fun y1 =>
    some (Sum.inl (op_, y1)))) fun (op_1, v6) =>
  cndO (v6)
   (some ((2 : Int)))
   (bindO (F89 (op_1, (0 : Int), (34 : Int))) fun y1 =>
   cndO (y1)
    (some ((0 : Int)))
    (some ((-1 : Int)))))
theorem r90 (x : Int) : funT T tb85 noPl 16 tv90 (bodyOf Tryz.f90) ti90 to90 x = F90 x := by kernel_rfl
def te90 : TEnt := ⟨90, true, [], ti90, to90.Den, F90, resF T [.tmp 2] 16 to90 []⟩
def tb90 : Nat → Option TEnt := insT 90 te90 tb85
theorem ok90 : TbOk Tryz.prog tb90 := TbOk.ins ok85 (fun_ok ok85 layOk mixed true _ ti90 to90 [] noPl tv90 Tryz.func90 rfl Tryz.results90 Tryz.ntmps90 (by kernel_rfl) (by kernel_rfl) Tryz.call90 F90 fun x _ h => (r90 x).trans h)
abbrev ti31 : SPat := ⟨[(0, .s)], []⟩
abbrev to31 : SPat := ⟨[(2, .own tg89 true), (3, .b)], []⟩
abbrev ts31_5 : SPat := ⟨[(0, .s), (4, .own tg89 true), (5, .i .i64)], []⟩
abbrev ts31_11 : SPat := ⟨[(0, .s), (4, .own tg89 true), (5, .i .i64), (6, .ptr 6 0), (7, .i .i64), (45, .sl .byte), (46, .i .i64), (47, .i .i64)], [.box 6 (pl [.i .i64, .i .i64, .i .i64])]⟩
abbrev ts31_1000010 : SPat := ⟨[(0, .s), (4, .own tg89 true), (5, .i .i64), (6, .ptr 6 0), (7, .i .i64)], [.box 6 (pl [.i .i64, .i .i64, .i .i64])]⟩
abbrev ts31_1000016 : SPat := ⟨[(0, .s), (4, .own tg89 true), (5, .i .i64), (6, .ptr 6 0), (7, .i .i64), (66, .b)], [.box 6 (pl [.i .i64, .i .i64, .i .i64])]⟩
abbrev ts31_1000017 : SPat := ⟨[(0, .s), (4, .own tg89 true), (5, .i .i64), (6, .ptr 6 0), (7, .i .i64)], [.box 6 (pl [.i .i64, .i .i64, .i .i64])]⟩
abbrev ts31_2000000 : SPat := ⟨[(4, .own tg89 true)], []⟩
abbrev ts31_2000001 : SPat := ⟨[(0, .s), (4, .own tg89 true), (5, .i .i64)], []⟩
abbrev ts31_2000002 : SPat := ⟨[(0, .s), (4, .own tg89 true), (5, .i .i64), (6, .ptr 6 0), (7, .i .i64)], [.box 6 (pl [.i .i64, .i .i64, .i .i64])]⟩
def tv31 : Nat → Option SPat := fun k => bif k == 5 then some ts31_5 else bif k == 11 then some ts31_11 else bif k == 1000010 then some ts31_1000010 else bif k == 1000016 then some ts31_1000016 else bif k == 1000017 then some ts31_1000017 else bif k == 2000000 then some ts31_2000000 else bif k == 2000001 then some ts31_2000001 else bif k == 2000002 then some ts31_2000002 else none
def F31 : List UInt8 → Option (List (Int × Int × Int) × Bool) := fun app =>
 bindO (F89 ((app.length : Int), (1 : Int), (120 : Int))) fun y =>
 cndO (!y)
  (some (([], false)))
  (bindE (Y := List (Int × Int × Int)) (whileO (fun (app1, v4, v5) =>
    cndO (decide (v5 < (app1.length : Int)))
     (bindE (Y := List UInt8 × List (Int × Int × Int) × Int) (grdO (decide ((0 : Int) ≤ v5)) (atO (app1) v5.toNat fun x => bindO (F90 (IntKind.wrap .i64 (x.toNat : Int))) fun y1 =>
      bindE (Y := List UInt8 × List (Int × Int × Int) × Int × Int × Int × Int × Int) (cndO (decide (y1 < (0 : Int)))
        (some (Sum.inr (Sum.inr (Sum.inr (Sum.inr ([], false))))))
        (cndO (decide (IntKind.wrap .i64 ((app1.length : Int) - v5) ≤ y1))
         (some (Sum.inr (Sum.inr (Sum.inr (Sum.inr ([], false))))))
         (some (Sum.inl (app1, v4, v5, y1, v5, IntKind.wrap .i64 (x.toNat : Int), (0 : Int)))))) fun (app2, v41, v51, v7, o0, o1, o2) =>
      grdO (decide ((0 : Int) ≤ IntKind.wrap .i64 (v51 + (1 : Int))) && decide (IntKind.wrap .i64 (v51 + (1 : Int)) ≤ IntKind.wrap .i64 (IntKind.wrap .i64 (v51 + (1 : Int)) + v7)) && decide (IntKind.wrap .i64 (IntKind.wrap .i64 (v51 + (1 : Int)) + v7) ≤ (app2.length : Int))) (bindE (Y := List UInt8 × List (Int × Int × Int) × Int × Int × Int × Int × Int) (whileO (fun (app3, v42, v52, v71, v45, v46, v47, o01, o11, o21) =>
        cndO (decide (v47 < v46))
         (grdO (decide ((0 : Int) ≤ v47)) (atO (v45) v47.toNat fun x1 => some (Sum.inl (app3, v42, v52, v71, v45, v46, IntKind.wrap .i64 (v47 + (1 : Int)), o01, o11, IntKind.wrap .i64 (IntKind.wrap .i64 ((256 : Int) * o21) + IntKind.wrap .i64 (x1.toNat : Int))))))
         (some (Sum.inr (Sum.inl (app3, v42, v52, v71, o01, o11, o21))))) ((app2, v41, v51, v7, List.drop (Int.toNat (IntKind.wrap .i64 (v51 + (1 : Int)))) (List.take (Int.toNat (IntKind.wrap .i64 (IntKind.wrap .i64 (v51 + (1 : Int)) + v7))) app2), (↑(List.length (List.drop (Int.toNat (IntKind.wrap .i64 (v51 + (1 : Int)))) (List.take (Int.toNat (IntKind.wrap .i64 (IntKind.wrap .i64 (v51 + (1 : Int)) + v7))) app2))) : Int), (0 : Int), o0, o1, o2))) fun (app3, v42, v52, v71, o01, o11, o21) =>
      bindE (Y := List UInt8 × List (Int × Int × Int) × Int × Int × Int × Int × Int) (bindE (Y := List UInt8 × List (Int × Int × Int) × Int × Int × Bool × Int × Int × Int) (cndO (decide (o11 = (1 : Int)))
         (some (Sum.inl (app3, v42, v52, v71, decide ((32767 : Int) < o21), o01, o11, o21)))
         (some (Sum.inl (app3, v42, v52, v71, false, o01, o11, o21)))) fun (app4, v43, v53, v72, v66, o02, o12, o22) =>
       cndO (v66)
        (some (Sum.inl (app4, v43, v53, v72, o02, o12, IntKind.wrap .i64 (o22 - (65536 : Int)))))
        (some (Sum.inl (app4, v43, v53, v72, o02, o12, o22)))) fun (app4, v43, v53, v72, o02, o12, o22) =>
      grdO (decide (List.length v43 + (1 : Nat) ≤ (9223372036854775807 : Nat)) && decide ((List.length v43 + (1 : Nat)) * (24 : Nat) ≤ (140737488355328 : Nat))) (some (Sum.inl (app4, v43 ++ [(o02, o12, o22)], IntKind.wrap .i64 (v53 + IntKind.wrap .i64 ((1 : Int) + v72)))))))) fun (app2, v41, v51) =>
     some (Sum.inl (app2, v41, v51)))
     (some (Sum.inr (Sum.inl v4)))) ((app, [], (0 : Int)))) fun v4 =>
  some ((v4, true)))
theorem r31 (x : List UInt8) : funT T tb90 noPl 80 tv31 (bodyOf Tryz.f31) ti31 to31 x = F31 x := by kernel_rfl
def te31 : TEnt := ⟨31, false, [], ti31, to31.Den, F31, resF T [.tmp 2, .tmp 3] 80 to31 []⟩
def tb31 : Nat → Option TEnt := insT 31 te31 tb90
theorem ok31 : TbOk Tryz.prog tb31 := TbOk.ins ok90 (fun_ok ok90 layOk mixed false _ ti31 to31 [] noPl tv31 Tryz.func31 rfl Tryz.results31 Tryz.ntmps31 (by kernel_rfl) (by kernel_rfl) Tryz.call31 F31 fun x _ h => (r31 x).trans h)
abbrev ti171 : SPat := ⟨[(0, .i .i64)], []⟩
abbrev to171 : SPat := ⟨[(2, .i .i64)], []⟩
abbrev ts171_1000002 : SPat := ⟨[(0, .i .i64), (3, .b)], []⟩
def tv171 : Nat → Option SPat := fun k => bif k == 1000002 then some ts171_1000002 else none
def F171 : Int → Option (Int) := fun op_ =>
 bindE (cndO (decide (op_ = (19 : Int)))
   (some (Sum.inl (op_, true)))
   (cndO (decide (op_ = (28 : Int)))
    (some (Sum.inl (op_, true)))
    (some (Sum.inl (op_, decide (op_ = (29 : Int))))))) fun (op_1, v3) =>
 cndO (v3)
  (some ((2 : Int)))
  (bindO (F89 (op_1, (20 : Int), (23 : Int))) fun y =>
  cndO (y)
   (some ((4 : Int)))
   (bindO (F89 (op_1, (24 : Int), (26 : Int))) fun y1 =>
   cndO (y1)
    (some ((5 : Int)))
    (cndO (decide (op_1 = (27 : Int)))
     (some ((6 : Int)))
     (some ((0 : Int))))))
theorem r171 (x : Int) : funT T tb31 noPl 23 tv171 (bodyOf Tryz.f171) ti171 to171 x = F171 x := by kernel_rfl
def te171 : TEnt := ⟨171, true, [], ti171, to171.Den, F171, resF T [.tmp 2] 23 to171 []⟩
def tb171 : Nat → Option TEnt := insT 171 te171 tb31
theorem ok171 : TbOk Tryz.prog tb171 := TbOk.ins ok31 (fun_ok ok31 layOk mixed true _ ti171 to171 [] noPl tv171 Tryz.func171 rfl Tryz.results171 Tryz.ntmps171 (by kernel_rfl) (by kernel_rfl) Tryz.call171 F171 fun x _ h => (r171 x).trans h)
abbrev ti172 : SPat := ⟨[(0, .i .i64)], []⟩
abbrev to172 : SPat := ⟨[(2, .b)], []⟩
def F172 : Int → Option (Bool) := fun op_ =>
 bindO (F89 (op_, (14 : Int), (18 : Int))) fun y =>
 some (y)
theorem r172 (x : Int) : funT T tb171 noPl 5 noIv (bodyOf Tryz.f172) ti172 to172 x = F172 x := by kernel_rfl
def te172 : TEnt := ⟨172, true, [], ti172, to172.Den, F172, resF T [.tmp 2] 5 to172 []⟩
def tb172 : Nat → Option TEnt := insT 172 te172 tb171
theorem ok172 : TbOk Tryz.prog tb172 := TbOk.ins ok171 (fun_ok ok171 layOk mixed true _ ti172 to172 [] noPl noIv Tryz.func172 rfl Tryz.results172 Tryz.ntmps172 (by kernel_rfl) (by kernel_rfl) Tryz.call172 F172 fun x _ h => (r172 x).trans h)
abbrev ti241 : SPat := ⟨[(0, .agg (pl [.i .i64, .i .i64, .i .i64])), (1, .ptr 100000 0)], [.box 100000 (pl [.i .i64])]⟩
abbrev to241 : SPat := ⟨[(3, .b)], [.box 100000 (pl [.i .i64])]⟩
def F241 : (Int × Int × Int) × Int → Option (Bool × Int) := fun ((x0, x1, x2), o0) =>
 some ((decide (x0 = o0), o0))
theorem r241 (x : (Int × Int × Int) × Int) : funT T tb172 noPl 8 noIv (bodyOf Tryz.f241) ti241 to241 x = F241 x := by kernel_rfl
def te241 : TEnt := ⟨241, false, [(1, [])], ti241, to241.Den, F241, resF T [.tmp 3] 8 to241 [100000]⟩
def tb241 : Nat → Option TEnt := insT 241 te241 tb172
theorem ok241 : TbOk Tryz.prog tb241 := TbOk.ins ok172 (fun_ok ok172 layOk mixed false _ ti241 to241 [100000] noPl noIv Tryz.func241 rfl Tryz.results241 Tryz.ntmps241 (by kernel_rfl) (by kernel_rfl) Tryz.call241 F241 fun x _ h => (r241 x).trans h)
abbrev ti242240 : SPat := ⟨[(0, .sl tg89), (1, .fn 241 (pl [.ptr 100000 0]))], [.box 100000 (pl [.i .i64])]⟩
abbrev to242240 : SPat := ⟨[(4, .i .i64)], [.box 100000 (pl [.i .i64])]⟩
abbrev ts242240_2 : SPat := ⟨[(0, .sl tg89), (1, .fn 241 (pl [.ptr 100000 0])), (7, .i .i64), (8, .i .i64)], [.box 100000 (pl [.i .i64])]⟩
abbrev ts242240_2000000 : SPat := ⟨[], [.box 100000 (pl [.i .i64])]⟩
def tv242240 : Nat → Option SPat := fun k => bif k == 2 then some ts242240_2 else bif k == 2000000 then some ts242240_2000000 else none
def F242240 : List (Int × Int × Int) × Int → Option (Int × Int) := fun (s, o0) =>
 bindE (whileO (fun (s1, v7, v8, o01) =>
   cndO (decide (v8 < v7))
    (grdO (decide ((0 : Int) ≤ v8)) (atO (s1) v8.toNat fun x => bindO (F241 ((x.1, x.2.1, x.2.2), o01)) fun (y, y1) =>
    cndO (y)
     (some (Sum.inr (Sum.inr (v8, y1))))
     (some (Sum.inl (s1, v7, IntKind.wrap .i64 (v8 + (1 : Int)), y1)))))
    (some (Sum.inr (Sum.inl o01)))) ((s, (s.length : Int), (0 : Int), o0))) fun o01 =>
 some (((-1 : Int), o01))
theorem r242240 (x : List (Int × Int × Int) × Int) : funT T tb241 noPl 19 tv242240 (bodyOf Tryz.f240) ti242240 to242240 x = F242240 x := by kernel_rfl
def te242240 : TEnt := ⟨240, false, [(1, [0])], ti242240, to242240.Den, F242240, resF T [.tmp 4] 19 to242240 [100000]⟩
def tb242240 : Nat → Option TEnt := insT 242240 te242240 tb241
theorem ok242240 : TbOk Tryz.prog tb242240 := TbOk.ins ok241 (fun_ok ok241 layOk mixed false _ ti242240 to242240 [100000] noPl tv242240 Tryz.func240 rfl Tryz.results240 Tryz.ntmps240 (by kernel_rfl) (by kernel_rfl) Tryz.call240 F242240 fun x _ h => (r242240 x).trans h)
abbrev ti173 : SPat := ⟨[(0, .sl tg89), (1, .i .i64)], []⟩
abbrev to173 : SPat := ⟨[(4, .i .i64)], []⟩
def F173 : List (Int × Int × Int) × Int → Option (Int) := fun (list, at_) =>
 bindO (F242240 (list, at_)) fun (y, y1) =>
 some (y)
theorem r173 (x : List (Int × Int × Int) × Int) : funT T tb242240 noPl 8 noIv (bodyOf Tryz.f173) ti173 to173 x = F173 x := by kernel_rfl
def te173 : TEnt := ⟨173, true, [], ti173, to173.Den, F173, resF T [.tmp 4] 8 to173 []⟩
def tb173 : Nat → Option TEnt := insT 173 te173 tb242240
theorem ok173 : TbOk Tryz.prog tb173 := TbOk.ins ok242240 (fun_ok ok242240 layOk mixed true _ ti173 to173 [] noPl noIv Tryz.func173 rfl Tryz.results173 Tryz.ntmps173 (by kernel_rfl) (by kernel_rfl) Tryz.call173 F173 fun x _ h => (r173 x).trans h)
abbrev ti243 : SPat := ⟨[(0, .agg (pl [.i .i64, .i .i64])), (1, .ptr 100000 0)], [.box 100000 (pl plC)]⟩
abbrev to243 : SPat := ⟨[(3, .b)], [.box 100000 (pl plC)]⟩
def F243 : (Int × Int) × Cls → Option (Bool × Cls) := fun ((k0, k1), o0, o1, o2, o3, o4, o5, o6) =>
 cndO (decide (k0 = (3 : Int)))
  (bindO (F162 ((o0, o1, o2, o3, o4, o5, o6), k1)) fun y =>
  cndO (!y)
   (some ((true, o0, o1, o2, o3, o4, o5, o6)))
   (cndO (!decide (k0 = (3 : Int)))
    (some ((!decide (k1 = (0 : Int)), o0, o1, o2, o3, o4, o5, o6)))
    (some ((false, o0, o1, o2, o3, o4, o5, o6)))))
  (cndO (!decide (k0 = (3 : Int)))
   (some ((!decide (k1 = (0 : Int)), o0, o1, o2, o3, o4, o5, o6)))
   (some ((false, o0, o1, o2, o3, o4, o5, o6))))
theorem r243 (x : (Int × Int) × Cls) : funT T tb173 noPl 24 noIv (bodyOf Tryz.f243) ti243 to243 x = F243 x := by kernel_rfl
def te243 : TEnt := ⟨243, false, [(1, [])], ti243, to243.Den, F243, resF T [.tmp 3] 24 to243 [100000]⟩
def tb243 : Nat → Option TEnt := insT 243 te243 tb173
theorem ok243 : TbOk Tryz.prog tb243 := TbOk.ins ok173 (fun_ok ok173 layOk mixed false _ ti243 to243 [100000] noPl noIv Tryz.func243 rfl Tryz.results243 Tryz.ntmps243 (by kernel_rfl) (by kernel_rfl) Tryz.call243 F243 fun x _ h => (r243 x).trans h)
abbrev ti244290 : SPat := ⟨[(0, .sl tg184), (1, .fn 243 (pl [.ptr 100000 0]))], [.box 100000 (pl plC)]⟩
abbrev to244290 : SPat := ⟨[(4, .i .i64)], [.box 100000 (pl plC)]⟩
abbrev ts244290_2 : SPat := ⟨[(0, .sl tg184), (1, .fn 243 (pl [.ptr 100000 0])), (7, .i .i64), (8, .i .i64)], [.box 100000 (pl plC)]⟩
abbrev ts244290_2000000 : SPat := ⟨[], [.box 100000 (pl plC)]⟩
def tv244290 : Nat → Option SPat := fun k => bif k == 2 then some ts244290_2 else bif k == 2000000 then some ts244290_2000000 else none
def F244290 : List (Int × Int) × Cls → Option (Int × Cls) := fun (s, o0, o1, o2, o3, o4, o5, o6) =>
 bindE (Y := Cls) (whileO (fun (s1, v7, v8, o01, o11, o21, o31, o41, o51, o61) =>
   cndO (decide (v8 < v7))
    (grdO (decide ((0 : Int) ≤ v8)) (atO (s1) v8.toNat fun x => bindO (F243 ((x.1, x.2), o01, o11, o21, o31, o41, o51, o61)) fun (y, y1, y2, y3, y4, y5, x1, x2) =>
    cndO (y)
     (some (Sum.inr (Sum.inr (v8, y1, y2, y3, y4, y5, x1, x2))))
     (some (Sum.inl (s1, v7, IntKind.wrap .i64 (v8 + (1 : Int)), y1, y2, y3, y4, y5, x1, x2)))))
    (some (Sum.inr (Sum.inl (o01, o11, o21, o31, o41, o51, o61))))) ((s, (s.length : Int), (0 : Int), o0, o1, o2, o3, o4, o5, o6))) fun (o01, o11, o21, o31, o41, o51, o61) =>
 some (((-1 : Int), o01, o11, o21, o31, o41, o51, o61))
theorem r244290 (x : List (Int × Int) × Cls) : funT T tb243 noPl 19 tv244290 (bodyOf Tryz.f290) ti244290 to244290 x = F244290 x := by kernel_rfl
def te244290 : TEnt := ⟨290, false, [(1, [0])], ti244290, to244290.Den, F244290, resF T [.tmp 4] 19 to244290 [100000]⟩
def tb244290 : Nat → Option TEnt := insT 244290 te244290 tb243
theorem ok244290 : TbOk Tryz.prog tb244290 := TbOk.ins ok243 (fun_ok ok243 layOk mixed false _ ti244290 to244290 [100000] noPl tv244290 Tryz.func290 rfl Tryz.results290 Tryz.ntmps290 (by kernel_rfl) (by kernel_rfl) Tryz.call290 F244290 fun x _ h => (r244290 x).trans h)
abbrev ti244242 : SPat := ⟨[(0, .sl tg184), (1, .fn 243 (pl [.ptr 100000 0]))], [.box 100000 (pl plC)]⟩
abbrev to244242 : SPat := ⟨[(4, .b)], [.box 100000 (pl plC)]⟩
def F244242 : List (Int × Int) × Cls → Option (Bool × Cls) := fun (s, o0, o1, o2, o3, o4, o5, o6) =>
 bindO (F244290 (s, o0, o1, o2, o3, o4, o5, o6)) fun (y, y1, y2, y3, y4, y5, x, x1) =>
 some ((decide ((0 : Int) ≤ y), y1, y2, y3, y4, y5, x, x1))
theorem r244242 (x : List (Int × Int) × Cls) : funT T tb244290 noPl 9 noIv (bodyOf Tryz.f242) ti244242 to244242 x = F244242 x := by kernel_rfl
def te244242 : TEnt := ⟨242, false, [(1, [0])], ti244242, to244242.Den, F244242, resF T [.tmp 4] 9 to244242 [100000]⟩
def tb244242 : Nat → Option TEnt := insT 244242 te244242 tb244290
theorem ok244242 : TbOk Tryz.prog tb244242 := TbOk.ins ok244290 (fun_ok ok244290 layOk mixed false _ ti244242 to244242 [100000] noPl noIv Tryz.func242 rfl Tryz.results242 Tryz.ntmps242 (by kernel_rfl) (by kernel_rfl) Tryz.call242 F244242 fun x _ h => (r244242 x).trans h)
abbrev ti174 : SPat := ⟨[(0, .agg (pl plC)), (1, .sl tg184)], []⟩
abbrev to174 : SPat := ⟨[(4, .b)], []⟩
def F174 : (Cls) × List (Int × Int) → Option (Bool) := fun ((c0, c1, c2, c3, c4, c5, c6), list) =>
 bindO (F244242 (list, c0, c1, c2, c3, c4, c5, c6)) fun (y, y1, y2, y3, y4, y5, x, x1) =>
 some (!y)
theorem r174 (x : (Cls) × List (Int × Int)) : funT T tb244242 noPl 9 noIv (bodyOf Tryz.f174) ti174 to174 x = F174 x := by kernel_rfl
def te174 : TEnt := ⟨174, true, [], ti174, to174.Den, F174, resF T [.tmp 4] 9 to174 []⟩
def tb174 : Nat → Option TEnt := insT 174 te174 tb244242
theorem ok174 : TbOk Tryz.prog tb174 := TbOk.ins ok244242 (fun_ok ok244242 layOk mixed true _ ti174 to174 [] noPl noIv Tryz.func174 rfl Tryz.results174 Tryz.ntmps174 (by kernel_rfl) (by kernel_rfl) Tryz.call174 F174 fun x _ h => (r174 x).trans h)
end Go.Proofs.YtdpapeledldifaaGreat
end
