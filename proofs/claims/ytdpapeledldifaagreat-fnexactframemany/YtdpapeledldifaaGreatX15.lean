/- Part 16 of the proof that, for every class, FrameMany of the code and of the specification agree; no condition. -/
import Derived.Test.YtdpapeledldifaaGreatX14
set_option autoImplicit true
set_option relaxedAutoImplicit true
set_option linter.all false
noncomputable section
namespace Go.Proofs.YtdpapeledldifaaGreat
open Go Go.AM Go.TM
set_option maxRecDepth 100000
set_option maxHeartbeats 4000000
abbrev ti24 : SPat := ⟨[(0, .agg (pl plC))], []⟩
abbrev to24 : SPat := ⟨[(2, .i .i64)], []⟩
abbrev ts24_5 : SPat := ⟨[(1, .ptr 1 0), (3, .i .i64), (4, .i .i64)], [.box 1 (pl plC)]⟩
abbrev ts24_8 : SPat := ⟨[(1, .ptr 1 0), (3, .i .i64), (4, .i .i64), (5, .i .i64)], [.box 1 (pl plC)]⟩
abbrev ts24_2000000 : SPat := ⟨[(3, .i .i64)], []⟩
abbrev ts24_2000001 : SPat := ⟨[(1, .ptr 1 0), (3, .i .i64), (4, .i .i64)], [.box 1 (pl plC)]⟩
abbrev ts24_2000002 : SPat := ⟨[(1, .ptr 1 0), (3, .i .i64), (4, .i .i64)], [.box 1 (pl plC)]⟩
def tv24 : Nat → Option SPat := fun k => bif k == 5 then some ts24_5 else bif k == 8 then some ts24_8 else bif k == 2000000 then some ts24_2000000 else bif k == 2000001 then some ts24_2000001 else bif k == 2000002 then some ts24_2000002 else none
def tp24 : Nat → List Nat × Plan := fun id => bif id == 10 then ([0, 1, 2, 3, 4, 5, 6, 7, 8, 9, 10, 11, 12, 13, 14, 15, 16, 17, 18, 19, 20, 21, 22, 23, 24], (.br 25 [24, 23, 22, 21, 20, 19, 18, 17, 16, 15, 14, 13, 12, 11, 10, 9, 8, 7, 6, 5, 4, 3, 2, 1, 0] [] [] .fin .fin)) else ([], .fin)
def F24 : Cls → Option (Int) := fun (c0, c1, c2, c3, c4, c5, c6) =>
 bindO (F30 (c0, c1, c2, c3, c4, c5, c6)) fun y =>
 cndO (!decide (y = (0 : Int)))
  (some ((0 : Int)))
  (bindE (whileO (fun (n, i, o0, o1, o2, o3, o4, o5, o6) =>
    cndO (decide (i < (o6.length : Int)))
     (bindE (Y := Int × Int × Cls) (bindE (Y := Int × Int × Cls) (whileO (fun (n1, i1, k, o01, o11, o21, o31, o41, o51, o61) =>
        grdO (decide ((0 : Int) ≤ i1)) (atO (o61) i1.toNat fun x => cndO (decide (k < (x.2.2.2.2.2.2.2.length : Int)))
         (grdO (decide ((0 : Int) ≤ i1)) (atO (o61) i1.toNat fun x1 => grdO (decide ((0 : Int) ≤ k)) (atO (x1.2.2.2.2.2.2.2) k.toNat fun x2 => grdO (decide ((0 : Int) ≤ i1)) (atO (o61) i1.toNat fun x3 => grdO (decide ((0 : Int) ≤ k)) (atO (x3.2.2.2.2.2.2.2) k.toNat fun x4 => some (Sum.inl (IntKind.wrap .i64 (IntKind.wrap .i64 (n1 + (x2.2.1.length : Int)) + (x4.2.2.length : Int)), i1, IntKind.wrap .i64 (k + (1 : Int)), o01, o11, o21, o31, o41, o51, o61)))))))
         (some (Sum.inr (Sum.inl (n1, i1, o01, o11, o21, o31, o41, o51, o61)))))) ((n, i, (0 : Int), o0, o1, o2, o3, o4, o5, o6))) fun (n1, i1, o01, o11, o21, o31, o41, o51, o61) =>
      some (Sum.inl (n1, i1, o01, o11, o21, o31, o41, o51, o61))) fun (n1, i1, o01, o11, o21, o31, o41, o51, o61) =>
     some (Sum.inl (n1, IntKind.wrap .i64 (i1 + (1 : Int)), o01, o11, o21, o31, o41, o51, o61)))
     (some (Sum.inr (Sum.inl n)))) (((0 : Int), (0 : Int), c0, c1, c2, c3, c4, c5, c6))) fun n =>
  some (n))
theorem r24 (x : Cls) : funT T tb30 tp24 53 tv24 (bodyOf Tryz.f24) ti24 to24 x = F24 x := by kernel_rfl
def te24 : TEnt := ⟨24, true, [], ti24, to24.Den, F24, resF T [.tmp 2] 53 to24 []⟩
def tb24 : Nat → Option TEnt := insT 24 te24 tb30
theorem ok24 : TbOk Tryz.prog tb24 := TbOk.ins ok30 (fun_ok ok30 layOk mixed true _ ti24 to24 [] tp24 tv24 Tryz.func24 rfl Tryz.results24 Tryz.ntmps24 (by kernel_rfl) (by kernel_rfl) Tryz.call24 F24 fun x _ h => (r24 x).trans h)
abbrev ti66 : SPat := ⟨[(0, .agg (pl plC))], []⟩
abbrev to66 : SPat := ⟨[(2, .b)], []⟩
abbrev ts66_4 : SPat := ⟨[(1, .ptr 1 0), (32, .sl tg27), (33, .i .i64), (34, .i .i64)], [.box 1 (pl plC)]⟩
abbrev ts66_10 : SPat := ⟨[(44, .sl tg53), (45, .i .i64), (46, .i .i64)], []⟩
abbrev ts66_15 : SPat := ⟨[(44, .sl tg53), (45, .i .i64), (46, .i .i64), (67, .sl tg100), (68, .i .i64), (69, .i .i64)], []⟩
abbrev ts66_1000003 : SPat := ⟨[(1, .ptr 1 0)], [.box 1 (pl plC)]⟩
abbrev ts66_1000014 : SPat := ⟨[(6, .ptr 6 0), (44, .sl tg53), (45, .i .i64), (46, .i .i64)], [.box 6 (pl plM)]⟩
abbrev ts66_2000000 : SPat := ⟨[(1, .ptr 1 0)], [.box 1 (pl plC)]⟩
abbrev ts66_2000002 : SPat := ⟨[], []⟩
abbrev ts66_2000003 : SPat := ⟨[(44, .sl tg53), (45, .i .i64), (46, .i .i64)], []⟩
abbrev ts66_2000004 : SPat := ⟨[(44, .sl tg53), (45, .i .i64), (46, .i .i64)], []⟩
abbrev ts66_2000005 : SPat := ⟨[(44, .sl tg53), (45, .i .i64), (46, .i .i64), (67, .sl tg100), (68, .i .i64), (69, .i .i64)], []⟩
def tv66 : Nat → Option SPat := fun k => bif k == 4 then some ts66_4 else bif k == 10 then some ts66_10 else bif k == 15 then some ts66_15 else bif k == 1000003 then some ts66_1000003 else bif k == 1000014 then some ts66_1000014 else bif k == 2000000 then some ts66_2000000 else bif k == 2000002 then some ts66_2000002 else bif k == 2000003 then some ts66_2000003 else bif k == 2000004 then some ts66_2000004 else bif k == 2000005 then some ts66_2000005 else none
def F66 : Cls → Option (Bool) := fun (app0, app1, app2, app3, app4, app5, app6) =>
 bindE (Y := Cls) (cndO (decide ((60 : Int) < (app0.length : Int)))
   (some (Sum.inr false))
   (cndO (decide ((3 : Int) < (app4.length : Int)))
    (some (Sum.inr false))
    (cndO (decide ((5 : Int) < (app5.length : Int)))
     (some (Sum.inr false))
     (cndO (decide ((6 : Int) < (app6.length : Int)))
      (some (Sum.inr false))
      (some (Sum.inl (app0, app1, app2, app3, app4, app5, app6))))))) fun (o0, o1, o2, o3, o4, o5, o6) =>
 bindE (Y := Cls) (whileO (fun (v32, v33, v34, o01, o11, o21, o31, o41, o51, o61) =>
   cndO (decide (v34 < v33))
    (grdO (decide ((0 : Int) ≤ v34)) (atO (v32) v34.toNat fun x => cndO (decide ((255 : Int) < (x.2.1.length : Int)))
     (some (Sum.inr (Sum.inr false)))
     (some (Sum.inl (v32, v33, IntKind.wrap .i64 (v34 + (1 : Int)), o01, o11, o21, o31, o41, o51, o61)))))
    (some (Sum.inr (Sum.inl (o01, o11, o21, o31, o41, o51, o61))))) ((o0, (o0.length : Int), (0 : Int), o0, o1, o2, o3, o4, o5, o6))) fun (o01, o11, o21, o31, o41, o51, o61) =>
 bindE (whileO (fun (v44, v45, v46) =>
   cndO (decide (v46 < v45))
    (bindE (Y := List Mth × Int × Int) (grdO (decide ((0 : Int) ≤ v46)) (atO (v44) v46.toNat fun x => bindE (Y := List Mth × Int × Int × Mth) (cndO (decide ((120 : Int) < (x.2.2.2.2.2.1.length : Int)))
       (some (Sum.inr (Sum.inr (Sum.inr (Sum.inr false)))))
       (cndO (decide ((3 : Int) < (x.2.2.2.2.2.2.1.length : Int)))
        (some (Sum.inr (Sum.inr (Sum.inr (Sum.inr false)))))
        (cndO (decide ((8 : Int) < (x.2.2.2.2.2.2.2.length : Int)))
         (some (Sum.inr (Sum.inr (Sum.inr (Sum.inr false)))))
         (some (Sum.inl (v44, v45, v46, x.1, x.2.1, x.2.2.1, x.2.2.2.1, x.2.2.2.2.1, x.2.2.2.2.2.1, x.2.2.2.2.2.2.1, x.2.2.2.2.2.2.2)))))) fun (v441, v451, v461, o02, o12, o22, o32, o42, o52, o62, o7) =>
     bindE (Y := List Mth × Int × Int) (whileO (fun (v442, v452, v462, v67, v68, v69) =>
       cndO (decide (v69 < v68))
        (bindE (Y := List Mth × Int × Int × List Frm × Int × Int) (grdO (decide ((0 : Int) ≤ v69)) (atO (v67) v69.toNat fun x1 => cndO (decide ((8 : Int) < (x1.2.1.length : Int)))
          (some (Sum.inr (Sum.inr (Sum.inr (Sum.inr (Sum.inr (Sum.inr false)))))))
          (cndO (decide ((8 : Int) < (x1.2.2.length : Int)))
           (some (Sum.inr (Sum.inr (Sum.inr (Sum.inr (Sum.inr (Sum.inr false)))))))
           (some (Sum.inl (v442, v452, v462, v67, v68, v69)))))) fun (v443, v453, v463, v671, v681, v691) =>
        some (Sum.inl (v443, v453, v463, v671, v681, IntKind.wrap .i64 (v691 + (1 : Int)))))
        (some (Sum.inr (Sum.inl (v442, v452, v462))))) ((v441, v451, v461, o7, (o7.length : Int), (0 : Int)))) fun (v442, v452, v462) =>
     some (Sum.inl (v442, v452, v462)))) fun (v441, v451, v461) =>
    some (Sum.inl (v441, v451, IntKind.wrap .i64 (v461 + (1 : Int)))))
    (some (Sum.inr (Sum.inl ())))) ((o61, (o61.length : Int), (0 : Int)))) fun _ =>
 some (true)
theorem r66 (x : Cls) : funT T tb24 noPl 85 tv66 (bodyOf Tryz.f66) ti66 to66 x = F66 x := by kernel_rfl
def te66 : TEnt := ⟨66, true, [], ti66, to66.Den, F66, resF T [.tmp 2] 85 to66 []⟩
def tb66 : Nat → Option TEnt := insT 66 te66 tb24
theorem ok66 : TbOk Tryz.prog tb66 := TbOk.ins ok24 (fun_ok ok24 layOk mixed true _ ti66 to66 [] noPl tv66 Tryz.func66 rfl Tryz.results66 Tryz.ntmps66 (by kernel_rfl) (by kernel_rfl) Tryz.call66 F66 fun x _ h => (r66 x).trans h)
abbrev ti144 : SPat := ⟨[(0, .i .i64)], []⟩
abbrev to144 : SPat := ⟨[(2, .s)], []⟩
def F144 : Int → Option (List UInt8) := fun n =>
 grdO (decide ((0 : Int) ≤ IntKind.wrap .u8 n) && decide (IntKind.wrap .u8 n ≤ (255 : Int))) (some ([UInt8.ofNat (Int.toNat (IntKind.wrap .u8 n))]))
theorem r144 (x : Int) : funT T tb66 noPl 7 noIv (bodyOf Tryz.f144) ti144 to144 x = F144 x := by kernel_rfl
def te144 : TEnt := ⟨144, true, [], ti144, to144.Den, F144, resF T [.tmp 2] 7 to144 []⟩
def tb144 : Nat → Option TEnt := insT 144 te144 tb66
theorem ok144 : TbOk Tryz.prog tb144 := TbOk.ins ok66 (fun_ok ok66 layOk mixed true _ ti144 to144 [] noPl noIv Tryz.func144 rfl Tryz.results144 Tryz.ntmps144 (by kernel_rfl) (by kernel_rfl) Tryz.call144 F144 fun x _ h => (r144 x).trans h)
abbrev ti145 : SPat := ⟨[(0, .i .i64)], []⟩
abbrev to145 : SPat := ⟨[(2, .s)], []⟩
def F145 : Int → Option (List UInt8) := fun n =>
 bindO (F144 (Int.fdiv n (256 : Int))) fun y =>
 bindO (F144 n) fun y1 =>
 grdO (decide (List.length y + List.length y1 ≤ (9223372036854775807 : Nat))) (some (y ++ y1))
theorem r145 (x : Int) : funT T tb144 noPl 9 noIv (bodyOf Tryz.f145) ti145 to145 x = F145 x := by kernel_rfl
def te145 : TEnt := ⟨145, true, [], ti145, to145.Den, F145, resF T [.tmp 2] 9 to145 []⟩
def tb145 : Nat → Option TEnt := insT 145 te145 tb144
theorem ok145 : TbOk Tryz.prog tb145 := TbOk.ins ok144 (fun_ok ok144 layOk mixed true _ ti145 to145 [] noPl noIv Tryz.func145 rfl Tryz.results145 Tryz.ntmps145 (by kernel_rfl) (by kernel_rfl) Tryz.call145 F145 fun x _ h => (r145 x).trans h)
abbrev ti86 : SPat := ⟨[(0, .i .i64)], []⟩
abbrev to86 : SPat := ⟨[(2, .b)], []⟩
def F86 : Int → Option (Bool) := fun flags =>
 some (!decide (andI IntKind.i64 flags (8 : Int) = (0 : Int)))
theorem r86 (x : Int) : funT T tb145 noPl 6 noIv (bodyOf Tryz.f86) ti86 to86 x = F86 x := by kernel_rfl
def te86 : TEnt := ⟨86, true, [], ti86, to86.Den, F86, resF T [.tmp 2] 6 to86 []⟩
def tb86 : Nat → Option TEnt := insT 86 te86 tb145
theorem ok86 : TbOk Tryz.prog tb86 := TbOk.ins ok145 (fun_ok ok145 layOk mixed true _ ti86 to86 [] noPl noIv Tryz.func86 rfl Tryz.results86 Tryz.ntmps86 (by kernel_rfl) (by kernel_rfl) Tryz.call86 F86 fun x _ h => (r86 x).trans h)
abbrev ti146 : SPat := ⟨[(0, .sl tg184)], []⟩
abbrev to146 : SPat := ⟨[(2, .s)], []⟩
abbrev ts146_3 : SPat := ⟨[(3, .s), (9, .sl tg184), (10, .i .i64), (11, .i .i64)], []⟩
abbrev ts146_2000000 : SPat := ⟨[(3, .s)], []⟩
abbrev ts146_2000001 : SPat := ⟨[(3, .s), (9, .sl tg184), (10, .i .i64), (11, .i .i64)], []⟩
def tv146 : Nat → Option SPat := fun k => bif k == 3 then some ts146_3 else bif k == 2000000 then some ts146_2000000 else bif k == 2000001 then some ts146_2000001 else none
def F146 : List (Int × Int) → Option (List UInt8) := fun list =>
 bindO (F144 (list.length : Int)) fun y =>
 bindE (Y := List UInt8) (whileO (fun (out, v9, v10, v11) =>
   cndO (decide (v11 < v10))
    (bindE (Y := List UInt8 × List (Int × Int) × Int × Int) (grdO (decide ((0 : Int) ≤ v11)) (atO (v9) v11.toNat fun x => bindO (F144 (x.1)) fun y1 =>
     grdO (decide (List.length out + List.length y1 ≤ (9223372036854775807 : Nat))) (cndO (decide (x.1 = (3 : Int)))
      (bindO (F145 (x.2)) fun y2 =>
      grdO (decide (List.length (out ++ y1) + List.length y2 ≤ (9223372036854775807 : Nat))) (some (Sum.inl (out ++ y1 ++ y2, v9, v10, v11))))
      (some (Sum.inl (out ++ y1, v9, v10, v11)))))) fun (out1, v91, v101, v111) =>
    some (Sum.inl (out1, v91, v101, IntKind.wrap .i64 (v111 + (1 : Int)))))
    (some (Sum.inr (Sum.inl out)))) ((y, list, (list.length : Int), (0 : Int)))) fun out =>
 some (out)
theorem r146 (x : List (Int × Int)) : funT T tb86 noPl 30 tv146 (bodyOf Tryz.f146) ti146 to146 x = F146 x := by kernel_rfl
def te146 : TEnt := ⟨146, true, [], ti146, to146.Den, F146, resF T [.tmp 2] 30 to146 []⟩
def tb146 : Nat → Option TEnt := insT 146 te146 tb86
theorem ok146 : TbOk Tryz.prog tb146 := TbOk.ins ok86 (fun_ok ok86 layOk mixed true _ ti146 to146 [] noPl tv146 Tryz.func146 rfl Tryz.results146 Tryz.ntmps146 (by kernel_rfl) (by kernel_rfl) Tryz.call146 F146 fun x _ h => (r146 x).trans h)
abbrev ti67 : SPat := ⟨[(0, .agg (pl plC))], []⟩
abbrev to67 : SPat := ⟨[(2, .s)], []⟩
abbrev ts67_3 : SPat := ⟨[(1, .ptr 1 0), (3, .s), (22, .sl tg27), (23, .i .i64), (24, .i .i64)], [.box 1 (pl plC)]⟩
abbrev ts67_15 : SPat := ⟨[(1, .ptr 1 0), (3, .s), (82, .sl (.int .i64)), (83, .i .i64), (84, .i .i64)], [.box 1 (pl plC)]⟩
abbrev ts67_21 : SPat := ⟨[(1, .ptr 1 0), (3, .s), (100, .sl tg89), (101, .i .i64), (102, .i .i64)], [.box 1 (pl plC)]⟩
abbrev ts67_27 : SPat := ⟨[(3, .s), (127, .sl tg53), (128, .i .i64), (129, .i .i64)], []⟩
abbrev ts67_33 : SPat := ⟨[(3, .s), (11, .ptr 11 0), (127, .sl tg53), (128, .i .i64), (129, .i .i64), (172, .sl tg147), (173, .i .i64), (174, .i .i64)], [.box 11 (pl plM)]⟩
abbrev ts67_39 : SPat := ⟨[(3, .s), (127, .sl tg53), (128, .i .i64), (129, .i .i64), (203, .sl tg100), (204, .i .i64), (205, .i .i64)], []⟩
abbrev ts67_2000000 : SPat := ⟨[(1, .ptr 1 0), (3, .s)], [.box 1 (pl plC)]⟩
abbrev ts67_2000002 : SPat := ⟨[(1, .ptr 1 0), (3, .s), (22, .sl tg27), (23, .i .i64), (24, .i .i64)], [.box 1 (pl plC)]⟩
abbrev ts67_2000003 : SPat := ⟨[(1, .ptr 1 0), (3, .s)], [.box 1 (pl plC)]⟩
abbrev ts67_2000005 : SPat := ⟨[(1, .ptr 1 0), (3, .s)], [.box 1 (pl plC)]⟩
abbrev ts67_2000007 : SPat := ⟨[(3, .s)], []⟩
abbrev ts67_2000008 : SPat := ⟨[(3, .s), (127, .sl tg53), (128, .i .i64), (129, .i .i64)], []⟩
abbrev ts67_2000009 : SPat := ⟨[(3, .s), (11, .ptr 11 0), (127, .sl tg53), (128, .i .i64), (129, .i .i64)], [.box 11 (pl plM)]⟩
abbrev ts67_2000011 : SPat := ⟨[(3, .s), (127, .sl tg53), (128, .i .i64), (129, .i .i64)], []⟩
def tv67 : Nat → Option SPat := fun k => bif k == 3 then some ts67_3 else bif k == 15 then some ts67_15 else bif k == 21 then some ts67_21 else bif k == 27 then some ts67_27 else bif k == 33 then some ts67_33 else bif k == 39 then some ts67_39 else bif k == 2000000 then some ts67_2000000 else bif k == 2000002 then some ts67_2000002 else bif k == 2000003 then some ts67_2000003 else bif k == 2000005 then some ts67_2000005 else bif k == 2000007 then some ts67_2000007 else bif k == 2000008 then some ts67_2000008 else bif k == 2000009 then some ts67_2000009 else bif k == 2000011 then some ts67_2000011 else none
def tp67 : Nat → List Nat × Plan := fun id => bif id == 9 then ([0, 1, 2, 3, 5, 6], (.br 4 [3, 2, 1] [0, 5, 6] [7, 8] (.br 9 [8, 7, 6, 5, 4, 3, 2, 1, 0] [] [] .fin .fin) .fin)) else bif id == 7 then ([0, 1, 2, 4, 5], (.br 3 [2, 1] [0, 4, 5] [] (.br 6 [5, 4, 3, 2, 1] [0] [7, 8] (.br 9 [8, 7, 6, 5, 4, 3, 2, 1, 0] [] [] .fin .fin) .fin) .fin)) else bif id == 13 then ([0, 1, 2, 4, 5, 8, 9, 12, 13, 14], (.br 3 [2, 1] [0, 4, 5, 8, 9, 12, 13, 14] [] (.br 6 [5, 4, 3, 2, 1] [0, 8, 9, 12, 13, 14] [7] (.br 10 [9, 8, 6, 5, 4, 3, 2, 1] [0, 12, 13, 14, 7] [11] (.br 15 [14, 13, 12, 10, 9, 8, 6, 5, 4, 3, 2, 1] [0, 7, 11] [16, 17] (.br 18 [17, 16, 15, 14, 13, 12, 11, 10, 9, 8, 7, 6, 5, 4, 3, 2, 1, 0] [] [] .fin .fin) .fin) .fin) .fin) .fin)) else bif id == 23 then ([0, 1, 2, 4, 5, 8, 9], (.br 3 [2, 1] [0, 4, 5, 8, 9] [] (.br 6 [5, 4, 3, 2, 1] [0, 8, 9] [7] (.br 10 [9, 8, 6, 5, 4, 3, 2, 1] [0, 7] [11, 12] (.br 13 [12, 11, 10, 9, 8, 7, 6, 5, 4, 3, 2, 1, 0] [] [] .fin .fin) .fin) .fin) .fin)) else bif id == 29 then ([0, 1, 2, 4, 5, 8, 9], (.br 3 [2, 1] [0, 4, 5, 8, 9] [] (.br 6 [5, 4, 3, 2, 1] [0, 8, 9] [7] (.br 10 [9, 8, 6, 5, 4, 3, 2, 1] [0, 7] [11, 12] (.br 13 [12, 11, 10, 9, 8, 7, 6, 5, 4, 3, 2, 1, 0] [] [] .fin .fin) .fin) .fin) .fin)) else bif id == 31 then ([0, 1, 2, 4, 5, 8, 9, 10, 13, 14, 16, 17, 18], (.br 3 [2, 1] [0, 4, 5, 8, 9, 10, 13, 14, 16, 17, 18] [] (.br 6 [5, 4, 3, 2, 1] [0, 8, 9, 10, 13, 14, 16, 17, 18] [7] (.br 11 [10, 9, 8, 6, 5, 4, 3, 2, 1] [0, 13, 14, 16, 17, 18, 7] [12, 15] (.br 19 [18, 17, 16, 11, 10, 9, 8, 6, 5, 4, 3, 2, 1] [0, 13, 14, 7, 12, 15] [20, 21] (.br 22 [21, 20, 19, 18, 17, 16, 15, 14, 13, 12, 11, 10, 9, 8, 7, 6, 5, 4, 3, 2, 1, 0] [] [] .fin .fin) .fin) .fin) .fin) .fin)) else bif id == 35 then ([0, 1, 2, 4, 5, 8, 9, 12, 13], (.br 3 [2, 1] [0, 4, 5, 8, 9, 12, 13] [] (.br 6 [5, 4, 3, 2, 1] [0, 8, 9, 12, 13] [7] (.br 10 [9, 8, 6, 5, 4, 3, 2, 1] [0, 12, 13, 7] [11] (.br 14 [13, 12, 10, 9, 8, 6, 5, 4, 3, 2, 1] [0, 7, 11] [15, 16] (.br 17 [16, 15, 14, 13, 12, 11, 10, 9, 8, 7, 6, 5, 4, 3, 2, 1, 0] [] [] .fin .fin) .fin) .fin) .fin) .fin)) else bif id == 41 then ([0, 1, 2, 4, 5, 8, 9], (.br 3 [2, 1] [0, 4, 5, 8, 9] [] (.br 6 [5, 4, 3, 2, 1] [0, 8, 9] [7] (.br 10 [9, 8, 6, 5, 4, 3, 2, 1] [0, 7] [11, 12] (.br 13 [12, 11, 10, 9, 8, 7, 6, 5, 4, 3, 2, 1, 0] [] [] .fin .fin) .fin) .fin) .fin)) else ([], .fin)
def F67 : Cls → Option (List UInt8) := fun (app0, app1, app2, app3, app4, app5, app6) =>
 bindO (F144 (app0.length : Int)) fun y =>
 grdO (decide ((4 : Nat) + List.length y ≤ (9223372036854775807 : Nat))) (bindE (Y := List UInt8 × Cls) (whileO (fun (v3, v22, v23, v24, o0, o1, o2, o3, o4, o5, o6) =>
   cndO (decide (v24 < v23))
    (grdO (decide ((0 : Int) ≤ v24)) (atO (v22) v24.toNat fun x => bindO (F144 (x.1)) fun y1 =>
    grdO (decide (List.length v3 + List.length y1 ≤ (9223372036854775807 : Nat))) (bindE (Y := List UInt8 × List Cst × Int × Int × Cls) (cndO (decide (x.1 = (1 : Int)))
      (bindO (F144 (x.2.1.length : Int)) fun y2 =>
      seqU (seqU (grdO (decide (v3 ++ y1 = v3 ++ y1)) (some (()))) (seqU (grdO (decide (x.2.1 = x.2.1)) (some (()))) (some (())))) (grdO (decide (List.length y2 + List.length (x.2.1) ≤ (9223372036854775807 : Nat))) (grdO (decide (List.length (v3 ++ y1) + List.length (y2 ++ x.2.1) ≤ (9223372036854775807 : Nat))) (some (Sum.inl (v3 ++ y1 ++ (y2 ++ x.2.1), v22, v23, v24, o0, o1, o2, o3, o4, o5, o6))))))
      (cndO (decide (x.1 = (2 : Int)))
       (bindO (F145 (x.2.2.1)) fun y2 =>
       grdO (decide (List.length (v3 ++ y1) + List.length y2 ≤ (9223372036854775807 : Nat))) (some (Sum.inl (v3 ++ y1 ++ y2, v22, v23, v24, o0, o1, o2, o3, o4, o5, o6))))
       (bindO (F145 (x.2.2.1)) fun y2 =>
       seqU (seqU (grdO (decide (v3 ++ y1 = v3 ++ y1)) (some (()))) (seqU (grdO (decide (x.2.2.2 = x.2.2.2)) (some (()))) (some (())))) (bindO (F145 (x.2.2.2)) fun y3 =>
       seqU (seqU (grdO (decide (v3 ++ y1 = v3 ++ y1)) (some (()))) (some (()))) (grdO (decide (List.length y2 + List.length y3 ≤ (9223372036854775807 : Nat))) (grdO (decide (List.length (v3 ++ y1) + List.length (y2 ++ y3) ≤ (9223372036854775807 : Nat))) (some (Sum.inl (v3 ++ y1 ++ (y2 ++ y3), v22, v23, v24, o0, o1, o2, o3, o4, o5, o6))))))))) fun (v31, v221, v231, v241, o01, o11, o21, o31, o41, o51, o61) =>
    some (Sum.inl (v31, v221, v231, IntKind.wrap .i64 (v241 + (1 : Int)), o01, o11, o21, o31, o41, o51, o61)))))
    (some (Sum.inr (Sum.inl (v3, o0, o1, o2, o3, o4, o5, o6))))) (([(83 : UInt8), (84 : UInt8), (79 : UInt8), (87 : UInt8)] ++ y, app0, (app0.length : Int), (0 : Int), app0, app1, app2, app3, app4, app5, app6))) fun (v3, o0, o1, o2, o3, o4, o5, o6) =>
 bindO (F144 o1) fun y1 =>
 seqU (seqU (grdO (decide (v3 = v3)) (some (()))) (seqU (grdO (decide (o2 = o2)) (some (()))) (seqU (grdO (decide (o3 = o3)) (some (()))) (seqU (grdO (decide (o4 = o4)) (some (()))) (seqU (grdO (decide ((o4.length : Int) = (o4.length : Int))) (some (()))) (some (()))))))) (bindO (F145 o2) fun y2 =>
 seqU (seqU (grdO (decide (v3 = v3)) (some (()))) (seqU (grdO (decide (o3 = o3)) (some (()))) (seqU (grdO (decide (o4 = o4)) (some (()))) (seqU (grdO (decide ((o4.length : Int) = (o4.length : Int))) (some (()))) (some (())))))) (grdO (decide (List.length y1 + List.length y2 ≤ (9223372036854775807 : Nat))) (bindO (F145 o3) fun y3 =>
 seqU (seqU (grdO (decide (v3 = v3)) (some (()))) (seqU (grdO (decide (o4 = o4)) (some (()))) (seqU (grdO (decide ((o4.length : Int) = (o4.length : Int))) (some (()))) (seqU (grdO (decide (List.length y1 + List.length y2 ≤ (9223372036854775807 : Nat))) (grdO (decide (y1 ++ y2 = y1 ++ y2)) (some (())))) (some (())))))) (grdO (decide (List.length (y1 ++ y2) + List.length y3 ≤ (9223372036854775807 : Nat))) (bindO (F144 (o4.length : Int)) fun y4 =>
 seqU (seqU (grdO (decide (v3 = v3)) (some (()))) (seqU (grdO (decide (List.length y1 + List.length y2 ≤ (9223372036854775807 : Nat))) (grdO (decide (y1 ++ y2 = y1 ++ y2)) (some (())))) (seqU (grdO (decide (List.length (y1 ++ y2) + List.length y3 ≤ (9223372036854775807 : Nat))) (grdO (decide (y1 ++ y2 ++ y3 = y1 ++ y2 ++ y3)) (some (())))) (some (()))))) (grdO (decide (List.length (y1 ++ y2 ++ y3) + List.length y4 ≤ (9223372036854775807 : Nat))) (grdO (decide (List.length v3 + List.length (y1 ++ y2 ++ y3 ++ y4) ≤ (9223372036854775807 : Nat))) (bindE (Y := List UInt8 × Cls) (whileO (fun (v31, v82, v83, v84, o01, o11, o21, o31, o41, o51, o61) =>
   cndO (decide (v84 < v83))
    (grdO (decide ((0 : Int) ≤ v84)) (atO (v82) v84.toNat fun x => bindO (F145 x) fun y5 =>
    grdO (decide (List.length v31 + List.length y5 ≤ (9223372036854775807 : Nat))) (some (Sum.inl (v31 ++ y5, v82, v83, IntKind.wrap .i64 (v84 + (1 : Int)), o01, o11, o21, o31, o41, o51, o61)))))
    (some (Sum.inr (Sum.inl (v31, o01, o11, o21, o31, o41, o51, o61))))) ((v3 ++ (y1 ++ y2 ++ y3 ++ y4), o4, (o4.length : Int), (0 : Int), o0, o1, o2, o3, o4, o5, o6))) fun (v31, o01, o11, o21, o31, o41, o51, o61) =>
 bindO (F144 (o51.length : Int)) fun y5 =>
 grdO (decide (List.length v31 + List.length y5 ≤ (9223372036854775807 : Nat))) (bindE (Y := List UInt8 × Cls) (whileO (fun (v32, v100, v101, v102, o02, o12, o22, o32, o42, o52, o62) =>
   cndO (decide (v102 < v101))
    (grdO (decide ((0 : Int) ≤ v102)) (atO (v100) v102.toNat fun x => bindO (F144 (x.1)) fun y6 =>
    seqU (seqU (grdO (decide (v32 = v32)) (some (()))) (seqU (grdO (decide (x.2.1 = x.2.1)) (some (()))) (seqU (grdO (decide (x.2.2 = x.2.2)) (some (()))) (some (()))))) (bindO (F145 (x.2.1)) fun y7 =>
    seqU (seqU (grdO (decide (v32 = v32)) (some (()))) (seqU (grdO (decide (x.2.2 = x.2.2)) (some (()))) (some (())))) (grdO (decide (List.length y6 + List.length y7 ≤ (9223372036854775807 : Nat))) (bindO (F145 (x.2.2)) fun y8 =>
    seqU (seqU (grdO (decide (v32 = v32)) (some (()))) (seqU (grdO (decide (List.length y6 + List.length y7 ≤ (9223372036854775807 : Nat))) (grdO (decide (y6 ++ y7 = y6 ++ y7)) (some (())))) (some (())))) (grdO (decide (List.length (y6 ++ y7) + List.length y8 ≤ (9223372036854775807 : Nat))) (grdO (decide (List.length v32 + List.length (y6 ++ y7 ++ y8) ≤ (9223372036854775807 : Nat))) (some (Sum.inl (v32 ++ (y6 ++ y7 ++ y8), v100, v101, IntKind.wrap .i64 (v102 + (1 : Int)), o02, o12, o22, o32, o42, o52, o62))))))))))
    (some (Sum.inr (Sum.inl (v32, o02, o12, o22, o32, o42, o52, o62))))) ((v31 ++ y5, o51, (o51.length : Int), (0 : Int), o01, o11, o21, o31, o41, o51, o61))) fun (v32, o02, o12, o22, o32, o42, o52, o62) =>
 bindO (F144 (o62.length : Int)) fun y6 =>
 grdO (decide (List.length v32 + List.length y6 ≤ (9223372036854775807 : Nat))) (bindE (Y := List UInt8) (whileO (fun (v33, v127, v128, v129) =>
   cndO (decide (v129 < v128))
    (bindE (Y := List UInt8 × List Mth × Int × Int) (grdO (decide ((0 : Int) ≤ v129)) (atO (v127) v129.toNat fun x => bindO (F144 (x.1)) fun y7 =>
     seqU (seqU (grdO (decide (v33 = v33)) (some (()))) (seqU (grdO (decide (x.2.1 = x.2.1)) (some (()))) (seqU (grdO (decide (x.2.2.1 = x.2.2.1)) (some (()))) (some (()))))) (bindO (F145 (x.2.1)) fun y8 =>
     seqU (seqU (grdO (decide (v33 = v33)) (some (()))) (seqU (grdO (decide (x.2.2.1 = x.2.2.1)) (some (()))) (some (())))) (grdO (decide (List.length y7 + List.length y8 ≤ (9223372036854775807 : Nat))) (bindO (F145 (x.2.2.1)) fun y9 =>
     seqU (seqU (grdO (decide (v33 = v33)) (some (()))) (seqU (grdO (decide (List.length y7 + List.length y8 ≤ (9223372036854775807 : Nat))) (grdO (decide (y7 ++ y8 = y7 ++ y8)) (some (())))) (some (())))) (grdO (decide (List.length (y7 ++ y8) + List.length y9 ≤ (9223372036854775807 : Nat))) (grdO (decide (List.length v33 + List.length (y7 ++ y8 ++ y9) ≤ (9223372036854775807 : Nat))) (bindO (F86 (x.1)) fun y10 =>
     cndO (y10)
      (some (Sum.inl (v33 ++ (y7 ++ y8 ++ y9), v127, v128, v129)))
      (bindO (F144 (x.2.2.2.1)) fun y11 =>
      seqU (seqU (grdO (decide (v33 ++ (y7 ++ y8 ++ y9) = v33 ++ (y7 ++ y8 ++ y9))) (some (()))) (seqU (grdO (decide (x.2.2.2.2.1 = x.2.2.2.2.1)) (some (()))) (seqU (grdO (decide (x.2.2.2.2.2.1 = x.2.2.2.2.2.1)) (some (()))) (seqU (grdO (decide ((x.2.2.2.2.2.1.length : Int) = (x.2.2.2.2.2.1.length : Int))) (some (()))) (seqU (grdO (decide (x.2.2.2.2.2.1 = x.2.2.2.2.2.1)) (some (()))) (seqU (grdO (decide (x.2.2.2.2.2.2.1 = x.2.2.2.2.2.2.1)) (some (()))) (seqU (grdO (decide ((x.2.2.2.2.2.2.1.length : Int) = (x.2.2.2.2.2.2.1.length : Int))) (some (()))) (some (()))))))))) (bindO (F144 (x.2.2.2.2.1)) fun y12 =>
      seqU (seqU (grdO (decide (v33 ++ (y7 ++ y8 ++ y9) = v33 ++ (y7 ++ y8 ++ y9))) (some (()))) (seqU (grdO (decide (x.2.2.2.2.2.1 = x.2.2.2.2.2.1)) (some (()))) (seqU (grdO (decide ((x.2.2.2.2.2.1.length : Int) = (x.2.2.2.2.2.1.length : Int))) (some (()))) (seqU (grdO (decide (x.2.2.2.2.2.1 = x.2.2.2.2.2.1)) (some (()))) (seqU (grdO (decide (x.2.2.2.2.2.2.1 = x.2.2.2.2.2.2.1)) (some (()))) (seqU (grdO (decide ((x.2.2.2.2.2.2.1.length : Int) = (x.2.2.2.2.2.2.1.length : Int))) (some (()))) (some (())))))))) (grdO (decide (List.length y11 + List.length y12 ≤ (9223372036854775807 : Nat))) (bindO (F145 (x.2.2.2.2.2.1.length : Int)) fun y13 =>
      seqU (seqU (grdO (decide (v33 ++ (y7 ++ y8 ++ y9) = v33 ++ (y7 ++ y8 ++ y9))) (some (()))) (seqU (grdO (decide (x.2.2.2.2.2.1 = x.2.2.2.2.2.1)) (some (()))) (seqU (grdO (decide (x.2.2.2.2.2.2.1 = x.2.2.2.2.2.2.1)) (some (()))) (seqU (grdO (decide ((x.2.2.2.2.2.2.1.length : Int) = (x.2.2.2.2.2.2.1.length : Int))) (some (()))) (seqU (grdO (decide (List.length y11 + List.length y12 ≤ (9223372036854775807 : Nat))) (grdO (decide (y11 ++ y12 = y11 ++ y12)) (some (())))) (some (()))))))) (grdO (decide (List.length (y11 ++ y12) + List.length y13 ≤ (9223372036854775807 : Nat))) (grdO (decide (List.length (y11 ++ y12 ++ y13) + List.length (x.2.2.2.2.2.1) ≤ (9223372036854775807 : Nat))) (bindO (F144 (x.2.2.2.2.2.2.1.length : Int)) fun y14 =>
      seqU (seqU (grdO (decide (v33 ++ (y7 ++ y8 ++ y9) = v33 ++ (y7 ++ y8 ++ y9))) (some (()))) (seqU (grdO (decide (x.2.2.2.2.2.1 = x.2.2.2.2.2.1)) (some (()))) (seqU (grdO (decide (List.length y11 + List.length y12 ≤ (9223372036854775807 : Nat))) (grdO (decide (y11 ++ y12 = y11 ++ y12)) (some (())))) (seqU (grdO (decide (List.length (y11 ++ y12) + List.length y13 ≤ (9223372036854775807 : Nat))) (grdO (decide (y11 ++ y12 ++ y13 = y11 ++ y12 ++ y13)) (some (())))) (seqU (grdO (decide (List.length (y11 ++ y12 ++ y13) + List.length (x.2.2.2.2.2.1) ≤ (9223372036854775807 : Nat))) (grdO (decide (y11 ++ y12 ++ y13 ++ x.2.2.2.2.2.1 = y11 ++ y12 ++ y13 ++ x.2.2.2.2.2.1)) (some (())))) (some (()))))))) (grdO (decide (List.length (y11 ++ y12 ++ y13 ++ x.2.2.2.2.2.1) + List.length y14 ≤ (9223372036854775807 : Nat))) (grdO (decide (List.length (v33 ++ (y7 ++ y8 ++ y9)) + List.length (y11 ++ y12 ++ y13 ++ x.2.2.2.2.2.1 ++ y14) ≤ (9223372036854775807 : Nat))) (bindE (Y := List UInt8 × List Mth × Int × Int × Mth) (whileO (fun (v34, v1271, v1281, v1291, v172, v173, v174, o03, o13, o23, o33, o43, o53, o63, o7) =>
        cndO (decide (v174 < v173))
         (grdO (decide ((0 : Int) ≤ v174)) (atO (v172) v174.toNat fun x1 => bindO (F145 (x1.1)) fun y15 =>
         seqU (seqU (grdO (decide (v34 = v34)) (some (()))) (seqU (grdO (decide (x1.2.1 = x1.2.1)) (some (()))) (seqU (grdO (decide (x1.2.2.1 = x1.2.2.1)) (some (()))) (seqU (grdO (decide (x1.2.2.2 = x1.2.2.2)) (some (()))) (some (())))))) (bindO (F145 (x1.2.1)) fun y16 =>
         seqU (seqU (grdO (decide (v34 = v34)) (some (()))) (seqU (grdO (decide (x1.2.2.1 = x1.2.2.1)) (some (()))) (seqU (grdO (decide (x1.2.2.2 = x1.2.2.2)) (some (()))) (some (()))))) (grdO (decide (List.length y15 + List.length y16 ≤ (9223372036854775807 : Nat))) (bindO (F145 (x1.2.2.1)) fun y17 =>
         seqU (seqU (grdO (decide (v34 = v34)) (some (()))) (seqU (grdO (decide (x1.2.2.2 = x1.2.2.2)) (some (()))) (seqU (grdO (decide (List.length y15 + List.length y16 ≤ (9223372036854775807 : Nat))) (grdO (decide (y15 ++ y16 = y15 ++ y16)) (some (())))) (some (()))))) (grdO (decide (List.length (y15 ++ y16) + List.length y17 ≤ (9223372036854775807 : Nat))) (bindO (F145 (x1.2.2.2)) fun y18 =>
         seqU (seqU (grdO (decide (v34 = v34)) (some (()))) (seqU (grdO (decide (List.length y15 + List.length y16 ≤ (9223372036854775807 : Nat))) (grdO (decide (y15 ++ y16 = y15 ++ y16)) (some (())))) (seqU (grdO (decide (List.length (y15 ++ y16) + List.length y17 ≤ (9223372036854775807 : Nat))) (grdO (decide (y15 ++ y16 ++ y17 = y15 ++ y16 ++ y17)) (some (())))) (some (()))))) (grdO (decide (List.length (y15 ++ y16 ++ y17) + List.length y18 ≤ (9223372036854775807 : Nat))) (grdO (decide (List.length v34 + List.length (y15 ++ y16 ++ y17 ++ y18) ≤ (9223372036854775807 : Nat))) (some (Sum.inl (v34 ++ (y15 ++ y16 ++ y17 ++ y18), v1271, v1281, v1291, v172, v173, IntKind.wrap .i64 (v174 + (1 : Int)), o03, o13, o23, o33, o43, o53, o63, o7))))))))))))
         (some (Sum.inr (Sum.inl (v34, v1271, v1281, v1291, o03, o13, o23, o33, o43, o53, o63, o7))))) ((v33 ++ (y7 ++ y8 ++ y9) ++ (y11 ++ y12 ++ y13 ++ x.2.2.2.2.2.1 ++ y14), v127, v128, v129, x.2.2.2.2.2.2.1, (x.2.2.2.2.2.2.1.length : Int), (0 : Int), x.1, x.2.1, x.2.2.1, x.2.2.2.1, x.2.2.2.2.1, x.2.2.2.2.2.1, x.2.2.2.2.2.2.1, x.2.2.2.2.2.2.2))) fun (v34, v1271, v1281, v1291, o03, o13, o23, o33, o43, o53, o63, o7) =>
      bindO (F144 (o7.length : Int)) fun y15 =>
      grdO (decide (List.length v34 + List.length y15 ≤ (9223372036854775807 : Nat))) (bindE (Y := List UInt8 × List Mth × Int × Int) (whileO (fun (v35, v1272, v1282, v1292, v203, v204, v205) =>
        cndO (decide (v205 < v204))
         (grdO (decide ((0 : Int) ≤ v205)) (atO (v203) v205.toNat fun x1 => bindO (F145 (x1.1)) fun y16 =>
         seqU (seqU (grdO (decide (v35 = v35)) (some (()))) (seqU (grdO (decide (x1.2.1 = x1.2.1)) (some (()))) (seqU (grdO (decide (x1.2.2 = x1.2.2)) (some (()))) (some (()))))) (bindO (F146 (x1.2.1)) fun y17 =>
         seqU (seqU (grdO (decide (v35 = v35)) (some (()))) (seqU (grdO (decide (x1.2.2 = x1.2.2)) (some (()))) (some (())))) (grdO (decide (List.length y16 + List.length y17 ≤ (9223372036854775807 : Nat))) (bindO (F146 (x1.2.2)) fun y18 =>
         seqU (seqU (grdO (decide (v35 = v35)) (some (()))) (seqU (grdO (decide (List.length y16 + List.length y17 ≤ (9223372036854775807 : Nat))) (grdO (decide (y16 ++ y17 = y16 ++ y17)) (some (())))) (some (())))) (grdO (decide (List.length (y16 ++ y17) + List.length y18 ≤ (9223372036854775807 : Nat))) (grdO (decide (List.length v35 + List.length (y16 ++ y17 ++ y18) ≤ (9223372036854775807 : Nat))) (some (Sum.inl (v35 ++ (y16 ++ y17 ++ y18), v1272, v1282, v1292, v203, v204, IntKind.wrap .i64 (v205 + (1 : Int))))))))))))
         (some (Sum.inr (Sum.inl (v35, v1272, v1282, v1292))))) ((v34 ++ y15, v1271, v1281, v1291, o7, (o7.length : Int), (0 : Int)))) fun (v35, v1272, v1282, v1292) =>
      some (Sum.inl (v35, v1272, v1282, v1292))))))))))))))))))))) fun (v34, v1271, v1281, v1291) =>
    some (Sum.inl (v34, v1271, v1281, IntKind.wrap .i64 (v1291 + (1 : Int)))))
    (some (Sum.inr (Sum.inl v33)))) ((v32 ++ y6, o62, (o62.length : Int), (0 : Int)))) fun v33 =>
 some (v33))))))))))))
theorem r67 (x : Cls) : funT T tb146 tp67 225 tv67 (bodyOf Tryz.f67) ti67 to67 x = F67 x := by kernel_rfl
def te67 : TEnt := ⟨67, true, [], ti67, to67.Den, F67, resF T [.tmp 2] 225 to67 []⟩
def tb67 : Nat → Option TEnt := insT 67 te67 tb146
theorem ok67 : TbOk Tryz.prog tb67 := TbOk.ins ok146 (fun_ok ok146 layOk mixed true _ ti67 to67 [] tp67 tv67 Tryz.func67 rfl Tryz.results67 Tryz.ntmps67 (by kernel_rfl) (by kernel_rfl) Tryz.call67 F67 fun x _ h => (r67 x).trans h)
abbrev ti57 : SPat := ⟨[(0, .ptr 100000 0), (1, .i .i64)], [.box 100000 (pl [.s, .b])]⟩
abbrev to57 : SPat := ⟨[(4, .s)], [.box 100000 (pl [.s, .b])]⟩
abbrev ts57_1000002 : SPat := ⟨[(0, .ptr 100000 0), (1, .i .i64), (18, .b)], [.box 100000 (pl [.s, .b])]⟩
def tv57 : Nat → Option SPat := fun k => bif k == 1000002 then some ts57_1000002 else none
def F57 : Int × List UInt8 × Bool → Option (List UInt8 × List UInt8 × Bool) := fun (n, o0, o1) =>
 bindE (Y := Int × Bool × List UInt8 × Bool) (cndO (o1)
   (some (Sum.inl (n, true, o0, o1)))
   (some (Sum.inl (n, decide ((o0.length : Int) < n), o0, o1)))) fun (n1, v18, o01, o11) =>
 cndO (v18)
  (some (([], o01, true)))
  (grdO (decide ((0 : Int) ≤ n1) && decide (n1 ≤ (o01.length : Int))) (grdO (decide ((0 : Int) ≤ n1) && decide (n1 ≤ (o01.length : Int)) && decide ((o01.length : Int) ≤ (o01.length : Int))) (some ((List.drop (0 : Nat) (List.take n1.toNat o01), List.drop n1.toNat (List.take (Int.toNat (o01.length : Int)) o01), o11)))))
theorem r57 (x : Int × List UInt8 × Bool) : funT T tb67 noPl 38 tv57 (bodyOf Tryz.f57) ti57 to57 x = F57 x := by kernel_rfl
def te57 : TEnt := ⟨57, false, [(0, [])], ti57, to57.Den, F57, resF T [.tmp 4] 38 to57 [100000]⟩
def tb57 : Nat → Option TEnt := insT 57 te57 tb67
theorem ok57 : TbOk Tryz.prog tb57 := TbOk.ins ok67 (fun_ok ok67 layOk mixed false _ ti57 to57 [100000] noPl tv57 Tryz.func57 rfl Tryz.results57 Tryz.ntmps57 (by kernel_rfl) (by kernel_rfl) Tryz.call57 F57 fun x _ h => (r57 x).trans h)
abbrev ti59 : SPat := ⟨[(0, .ptr 100000 0)], [.box 100000 (pl [.s, .b])]⟩
abbrev to59 : SPat := ⟨[(2, .i .i64)], [.box 100000 (pl [.s, .b])]⟩
def F59 : List UInt8 × Bool → Option (Int × List UInt8 × Bool) := fun (o0, o1) =>
 bindO (F57 ((1 : Int), o0, o1)) fun (y, y1, y2) =>
 cndO (y2)
  (some (((0 : Int), y1, y2)))
  (atO (y) ((0 : Nat)) fun x => some ((IntKind.wrap .i64 (x.toNat : Int), y1, y2)))
theorem r59 (x : List UInt8 × Bool) : funT T tb57 noPl 13 noIv (bodyOf Tryz.f59) ti59 to59 x = F59 x := by kernel_rfl
def te59 : TEnt := ⟨59, false, [(0, [])], ti59, to59.Den, F59, resF T [.tmp 2] 13 to59 [100000]⟩
def tb59 : Nat → Option TEnt := insT 59 te59 tb57
theorem ok59 : TbOk Tryz.prog tb59 := TbOk.ins ok57 (fun_ok ok57 layOk mixed false _ ti59 to59 [100000] noPl noIv Tryz.func59 rfl Tryz.results59 Tryz.ntmps59 (by kernel_rfl) (by kernel_rfl) Tryz.call59 F59 fun x _ h => (r59 x).trans h)
abbrev ti58 : SPat := ⟨[(0, .ptr 100000 0), (1, .i .i64), (2, .i .i64)], [.box 100000 (pl [.s, .b])]⟩
abbrev to58 : SPat := ⟨[(6, .i .i64)], [.box 100000 (pl [.s, .b])]⟩
def F58 : Int × Int × List UInt8 × Bool → Option (Int × List UInt8 × Bool) := fun (n, most, o0, o1) =>
 cndO (decide (most < n))
  (some (((0 : Int), o0, true)))
  (some ((n, o0, o1)))
theorem r58 (x : Int × Int × List UInt8 × Bool) : funT T tb59 noPl 14 noIv (bodyOf Tryz.f58) ti58 to58 x = F58 x := by kernel_rfl
def te58 : TEnt := ⟨58, false, [(0, [])], ti58, to58.Den, F58, resF T [.tmp 6] 14 to58 [100000]⟩
def tb58 : Nat → Option TEnt := insT 58 te58 tb59
theorem ok58 : TbOk Tryz.prog tb58 := TbOk.ins ok59 (fun_ok ok59 layOk mixed false _ ti58 to58 [100000] noPl noIv Tryz.func58 rfl Tryz.results58 Tryz.ntmps58 (by kernel_rfl) (by kernel_rfl) Tryz.call58 F58 fun x _ h => (r58 x).trans h)
abbrev ti61 : SPat := ⟨[(0, .ptr 100000 0)], [.box 100000 (pl [.s, .b])]⟩
abbrev to61 : SPat := ⟨[(2, .i .i64)], [.box 100000 (pl [.s, .b])]⟩
def F61 : List UInt8 × Bool → Option (Int × List UInt8 × Bool) := fun (o0, o1) =>
 bindO (F59 (o0, o1)) fun (y, y1, y2) =>
 bindO (F59 (y1, y2)) fun (y3, y4, y5) =>
 some ((IntKind.wrap .i64 (IntKind.wrap .i64 ((256 : Int) * y) + y3), y4, y5))
theorem r61 (x : List UInt8 × Bool) : funT T tb58 noPl 11 noIv (bodyOf Tryz.f61) ti61 to61 x = F61 x := by kernel_rfl
def te61 : TEnt := ⟨61, false, [(0, [])], ti61, to61.Den, F61, resF T [.tmp 2] 11 to61 [100000]⟩
def tb61 : Nat → Option TEnt := insT 61 te61 tb58
theorem ok61 : TbOk Tryz.prog tb61 := TbOk.ins ok58 (fun_ok ok58 layOk mixed false _ ti61 to61 [100000] noPl noIv Tryz.func61 rfl Tryz.results61 Tryz.ntmps61 (by kernel_rfl) (by kernel_rfl) Tryz.call61 F61 fun x _ h => (r61 x).trans h)
abbrev ti60 : SPat := ⟨[(0, .ptr 100000 0)], [.box 100000 (pl [.s, .b])]⟩
abbrev to60 : SPat := ⟨[(2, .ptr 2 0)], [.box 2 (pl [.i .i64, .s, .i .i64, .i .i64]), .box 100000 (pl [.s, .b])]⟩
abbrev ts60_1000012 : SPat := ⟨[(0, .ptr 100000 0), (2, .ptr 2 0), (3, .ptr 3 0), (24, .b)], [.box 2 (pl [.i .i64, .s, .i .i64, .i .i64]), .box 3 (pl [.i .i64, .s, .i .i64, .i .i64]), .box 100000 (pl [.s, .b])]⟩
abbrev ts60_2000000 : SPat := ⟨[(2, .ptr 2 0), (3, .ptr 3 0)], [.box 2 (pl [.i .i64, .s, .i .i64, .i .i64]), .box 3 (pl [.i .i64, .s, .i .i64, .i .i64]), .box 100000 (pl [.s, .b])]⟩
def tv60 : Nat → Option SPat := fun k => bif k == 1000012 then some ts60_1000012 else bif k == 2000000 then some ts60_2000000 else none
def F60 : List UInt8 × Bool → Option ((Cst) × List UInt8 × Bool) := fun (o0, o1) =>
 bindO (F59 (o0, o1)) fun (y, y1, y2) =>
 bindE (Y := (Cst) × (Cst) × List UInt8 × Bool) (cndO (decide (y = (1 : Int)))
   (bindO (F59 (y1, y2)) fun (y3, y4, y5) =>
   bindO (F57 (y3, y4, y5)) fun (y6, y7, y8) =>
   some (Sum.inl (((0 : Int), [], (0 : Int), (0 : Int)), (y, y6, (0 : Int), (0 : Int)), y7, y8)))
   (cndO (decide (y = (2 : Int)))
    (bindO (F61 (y1, y2)) fun (y3, y4, y5) =>
    some (Sum.inl (((0 : Int), [], (0 : Int), (0 : Int)), (y, [], y3, (0 : Int)), y4, y5)))
    (bindE (Y := Bool × (Cst) × (Cst) × List UInt8 × Bool) (cndO (decide (y = (3 : Int)))
      (some (Sum.inl (true, ((0 : Int), [], (0 : Int), (0 : Int)), (y, [], (0 : Int), (0 : Int)), y1, y2)))
      (cndO (decide (y = (4 : Int)))
       (some (Sum.inl (true, ((0 : Int), [], (0 : Int), (0 : Int)), (y, [], (0 : Int), (0 : Int)), y1, y2)))
       (cndO (decide (y = (5 : Int)))
        (some (Sum.inl (true, ((0 : Int), [], (0 : Int), (0 : Int)), (y, [], (0 : Int), (0 : Int)), y1, y2)))
        (some (Sum.inl (decide (y = (6 : Int)), ((0 : Int), [], (0 : Int), (0 : Int)), (y, [], (0 : Int), (0 : Int)), y1, y2)))))) fun (v24, (o01, o11, o2, o3), (o02, o12, o21, o31), o03, o13) =>
    cndO (v24)
     (bindO (F61 (o03, o13)) fun (y3, y4, y5) =>
     bindO (F61 (y4, y5)) fun (y6, y7, y8) =>
     some (Sum.inl ((o01, o11, o2, o3), (o02, o12, y3, y6), y7, y8)))
     (some (Sum.inl ((o01, o11, o2, o3), (o02, o12, o21, o31), o03, true)))))) fun ((o01, o11, o2, o3), (o02, o12, o21, o31), o03, o13) =>
 some (((o02, o12, o21, o31), o03, o13))
theorem r60 (x : List UInt8 × Bool) : funT T tb61 noPl 36 tv60 (bodyOf Tryz.f60) ti60 to60 x = F60 x := by kernel_rfl
def te60 : TEnt := ⟨60, false, [(0, [])], ti60, to60.Den, F60, resF T [.cell 2 27] 36 to60 [100000]⟩
def tb60 : Nat → Option TEnt := insT 60 te60 tb61
theorem ok60 : TbOk Tryz.prog tb60 := TbOk.ins ok61 (fun_ok ok61 layOk mixed false _ ti60 to60 [100000] noPl tv60 Tryz.func60 rfl Tryz.results60 Tryz.ntmps60 (by kernel_rfl) (by kernel_rfl) Tryz.call60 F60 fun x _ h => (r60 x).trans h)
abbrev ti141 : SPat := ⟨[(0, .ptr 100000 0)], [.box 100000 (pl [.s, .b])]⟩
abbrev to141 : SPat := ⟨[(2, .own tg184 true)], [.box 100000 (pl [.s, .b])]⟩
abbrev ts141_3 : SPat := ⟨[(0, .ptr 100000 0), (3, .own tg184 true), (4, .i .i64)], [.box 100000 (pl [.s, .b])]⟩
abbrev ts141_1000005 : SPat := ⟨[(0, .ptr 100000 0), (3, .own tg184 true), (4, .i .i64)], [.box 100000 (pl [.s, .b])]⟩
abbrev ts141_2000000 : SPat := ⟨[(3, .own tg184 true)], [.box 100000 (pl [.s, .b])]⟩
abbrev ts141_2000001 : SPat := ⟨[(0, .ptr 100000 0), (3, .own tg184 true), (4, .i .i64)], [.box 100000 (pl [.s, .b])]⟩
def tv141 : Nat → Option SPat := fun k => bif k == 3 then some ts141_3 else bif k == 1000005 then some ts141_1000005 else bif k == 2000000 then some ts141_2000000 else bif k == 2000001 then some ts141_2000001 else none
def F141 : List UInt8 × Bool → Option (List (Int × Int) × List UInt8 × Bool) := fun (o0, o1) =>
 bindO (F59 (o0, o1)) fun (y, y1, y2) =>
 bindO (F58 (y, (8 : Int), y1, y2)) fun (y3, y4, y5) =>
 bindE (Y := List (Int × Int) × List UInt8 × Bool) (whileO (fun (out, n, o01, o11) =>
   bindE (Y := List (Int × Int) × Int × List UInt8 × Bool) (cndO (decide ((0 : Int) < n))
     (cndO (!o11)
      (some (Sum.inl (out, n, o01, o11)))
      (some (Sum.inr (Sum.inr (Sum.inl (out, o01, o11))))))
     (some (Sum.inr (Sum.inr (Sum.inl (out, o01, o11)))))) fun (out1, n1, o02, o12) =>
   bindE (Y := List (Int × Int) × Int × List UInt8 × Bool) (bindO (F59 (o02, o12)) fun (y6, y7, y8) =>
    bindO (F58 (y6, (3 : Int), y7, y8)) fun (y9, y10, y11) =>
    cndO (decide (y9 = (3 : Int)))
     (bindO (F61 (y10, y11)) fun (y12, y13, y14) =>
     grdO (decide (List.length out1 + (1 : Nat) ≤ (9223372036854775807 : Nat)) && decide ((List.length out1 + (1 : Nat)) * (16 : Nat) ≤ (140737488355328 : Nat))) (some (Sum.inl (out1 ++ [(y9, y12)], n1, y13, y14))))
     (grdO (decide (List.length out1 + (1 : Nat) ≤ (9223372036854775807 : Nat)) && decide ((List.length out1 + (1 : Nat)) * (16 : Nat) ≤ (140737488355328 : Nat))) (some (Sum.inl (out1 ++ [(y9, (0 : Int))], n1, y10, y11))))) fun (out2, n2, o03, o13) =>
   some (Sum.inl (out2, IntKind.wrap .i64 (n2 - (1 : Int)), o03, o13))) (([], y3, y4, y5))) fun (out, o01, o11) =>
 some ((out, o01, o11))
theorem r141 (x : List UInt8 × Bool) : funT T tb60 noPl 37 tv141 (bodyOf Tryz.f141) ti141 to141 x = F141 x := by kernel_rfl
def te141 : TEnt := ⟨141, false, [(0, [])], ti141, to141.Den, F141, resF T [.tmp 2] 37 to141 [100000]⟩
def tb141 : Nat → Option TEnt := insT 141 te141 tb60
theorem ok141 : TbOk Tryz.prog tb141 := TbOk.ins ok60 (fun_ok ok60 layOk mixed false _ ti141 to141 [100000] noPl tv141 Tryz.func141 rfl Tryz.results141 Tryz.ntmps141 (by kernel_rfl) (by kernel_rfl) Tryz.call141 F141 fun x _ h => (r141 x).trans h)
abbrev ti62 : SPat := ⟨[(0, .ptr 100000 0)], [.box 100000 (pl [.s, .b])]⟩
abbrev to62 : SPat := ⟨[(2, .ptr 2 0)], [.box 2 (pl plN), .box 100000 (pl [.s, .b])]⟩
abbrev ts62_10 : SPat := ⟨[(0, .ptr 100000 0), (2, .ptr 2 0), (3, .ptr 3 0), (4, .i .i64)], [.box 2 (pl plN), .box 3 (pl plN), .box 100000 (pl [.s, .b])]⟩
abbrev ts62_18 : SPat := ⟨[(0, .ptr 100000 0), (2, .ptr 2 0), (3, .ptr 3 0), (6, .i .i64)], [.box 2 (pl plN), .box 3 (pl plN), .box 100000 (pl [.s, .b])]⟩
abbrev ts62_1000012 : SPat := ⟨[(0, .ptr 100000 0), (2, .ptr 2 0), (3, .ptr 3 0), (4, .i .i64)], [.box 2 (pl plN), .box 3 (pl plN), .box 100000 (pl [.s, .b])]⟩
abbrev ts62_1000020 : SPat := ⟨[(0, .ptr 100000 0), (2, .ptr 2 0), (3, .ptr 3 0), (6, .i .i64)], [.box 2 (pl plN), .box 3 (pl plN), .box 100000 (pl [.s, .b])]⟩
abbrev ts62_2000000 : SPat := ⟨[(0, .ptr 100000 0), (2, .ptr 2 0), (3, .ptr 3 0)], [.box 2 (pl plN), .box 3 (pl plN), .box 100000 (pl [.s, .b])]⟩
abbrev ts62_2000002 : SPat := ⟨[(2, .ptr 2 0), (3, .ptr 3 0)], [.box 2 (pl plN), .box 3 (pl plN), .box 100000 (pl [.s, .b])]⟩
def tv62 : Nat → Option SPat := fun k => bif k == 10 then some ts62_10 else bif k == 18 then some ts62_18 else bif k == 1000012 then some ts62_1000012 else bif k == 1000020 then some ts62_1000020 else bif k == 2000000 then some ts62_2000000 else bif k == 2000002 then some ts62_2000002 else none
def F62 : List UInt8 × Bool → Option ((Mth) × List UInt8 × Bool) := fun (o0, o1) =>
 bindO (F59 (o0, o1)) fun (y, y1, y2) =>
 bindO (F61 (y1, y2)) fun (y3, y4, y5) =>
 bindO (F61 (y4, y5)) fun (y6, y7, y8) =>
 bindO (F86 y) fun y9 =>
 cndO (y9)
  (some (((y, y3, y6, (0 : Int), (0 : Int), [], [], []), y7, y8)))
  (bindO (F59 (y7, y8)) fun (y10, y11, y12) =>
  bindO (F59 (y11, y12)) fun (y13, y14, y15) =>
  bindO (F61 (y14, y15)) fun (y16, y17, y18) =>
  bindO (F58 (y16, (120 : Int), y17, y18)) fun (y19, y20, y21) =>
  bindO (F57 (y19, y20, y21)) fun (y22, y23, y24) =>
  bindO (F59 (y23, y24)) fun (y25, y26, y27) =>
  bindO (F58 (y25, (3 : Int), y26, y27)) fun (y28, y29, y30) =>
  bindE (Y := (Mth) × (Mth) × List UInt8 × Bool) (whileO (fun (v4, (o01, o11, o2, o3, o4, o5, o6, o7), (o02, o12, o21, o31, o41, o51, o61, o71), o03, o13) =>
    bindE (Y := Int × (Mth) × (Mth) × List UInt8 × Bool) (cndO (decide ((0 : Int) < v4))
      (cndO (!o13)
       (some (Sum.inl (v4, (o01, o11, o2, o3, o4, o5, o6, o7), (o02, o12, o21, o31, o41, o51, o61, o71), o03, o13)))
       (some (Sum.inr (Sum.inr (Sum.inl ((o01, o11, o2, o3, o4, o5, o6, o7), (o02, o12, o21, o31, o41, o51, o61, o71), o03, o13))))))
      (some (Sum.inr (Sum.inr (Sum.inl ((o01, o11, o2, o3, o4, o5, o6, o7), (o02, o12, o21, o31, o41, o51, o61, o71), o03, o13)))))) fun (v41, (o04, o14, o22, o32, o42, o52, o62, o72), (o05, o15, o23, o33, o43, o53, o63, o73), o06, o16) =>
    bindO (F61 (o06, o16)) fun (y31, y32, y33) =>
    bindO (F61 (y32, y33)) fun (y34, y35, y36) =>
    bindO (F61 (y35, y36)) fun (y37, y38, y39) =>
    bindO (F61 (y38, y39)) fun (y40, y41, y42) =>
    grdO (decide (List.length o63 + (1 : Nat) ≤ (9223372036854775807 : Nat)) && decide ((List.length o63 + (1 : Nat)) * (32 : Nat) ≤ (140737488355328 : Nat))) (some (Sum.inl (IntKind.wrap .i64 (v41 - (1 : Int)), (o04, o14, o22, o32, o42, o52, o62, o72), (o05, o15, o23, o33, o43, o53, o63 ++ [(y31, y34, y37, y40)], o73), y41, y42)))) ((y28, ((0 : Int), (0 : Int), (0 : Int), (0 : Int), (0 : Int), [], [], []), (y, y3, y6, y10, y13, y22, [], []), y29, y30))) fun ((o01, o11, o2, o3, o4, o5, o6, o7), (o02, o12, o21, o31, o41, o51, o61, o71), o03, o13) =>
  bindO (F59 (o03, o13)) fun (y31, y32, y33) =>
  bindO (F58 (y31, (8 : Int), y32, y33)) fun (y34, y35, y36) =>
  bindE (Y := (Mth) × (Mth) × List UInt8 × Bool) (whileO (fun (v6, (o04, o14, o22, o32, o42, o52, o62, o72), (o05, o15, o23, o33, o43, o53, o63, o73), o06, o16) =>
    bindE (Y := Int × (Mth) × (Mth) × List UInt8 × Bool) (cndO (decide ((0 : Int) < v6))
      (cndO (!o16)
       (some (Sum.inl (v6, (o04, o14, o22, o32, o42, o52, o62, o72), (o05, o15, o23, o33, o43, o53, o63, o73), o06, o16)))
       (some (Sum.inr (Sum.inr (Sum.inl ((o04, o14, o22, o32, o42, o52, o62, o72), (o05, o15, o23, o33, o43, o53, o63, o73), o06, o16))))))
      (some (Sum.inr (Sum.inr (Sum.inl ((o04, o14, o22, o32, o42, o52, o62, o72), (o05, o15, o23, o33, o43, o53, o63, o73), o06, o16)))))) fun (v61, (o07, o17, o24, o34, o44, o54, o64, o74), (o08, o18, o25, o35, o45, o55, o65, o75), o09, o19) =>
    bindO (F61 (o09, o19)) fun (y37, y38, y39) =>
    bindO (F141 (y38, y39)) fun (y40, y41, y42) =>
    bindO (F141 (y41, y42)) fun (y43, y44, y45) =>
    grdO (decide (List.length o75 + (1 : Nat) ≤ (9223372036854775807 : Nat)) && decide ((List.length o75 + (1 : Nat)) * (56 : Nat) ≤ (140737488355328 : Nat))) (some (Sum.inl (IntKind.wrap .i64 (v61 - (1 : Int)), (o07, o17, o24, o34, o44, o54, o64, o74), (o08, o18, o25, o35, o45, o55, o65, o75 ++ [(y37, y40, y43)]), y44, y45)))) ((y34, (o01, o11, o2, o3, o4, o5, o6, o7), (o02, o12, o21, o31, o41, o51, o61, o71), y35, y36))) fun ((o04, o14, o22, o32, o42, o52, o62, o72), (o05, o15, o23, o33, o43, o53, o63, o73), o06, o16) =>
  some (((o05, o15, o23, o33, o43, o53, o63, o73), o06, o16)))
theorem r62 (x : List UInt8 × Bool) : funT T tb141 noPl 98 tv62 (bodyOf Tryz.f62) ti62 to62 x = F62 x := by kernel_rfl
def te62 : TEnt := ⟨62, false, [(0, [])], ti62, to62.Den, F62, resF T [.cell 2 53] 98 to62 [100000]⟩
def tb62 : Nat → Option TEnt := insT 62 te62 tb141
theorem ok62 : TbOk Tryz.prog tb62 := TbOk.ins ok141 (fun_ok ok141 layOk mixed false _ ti62 to62 [100000] noPl tv62 Tryz.func62 rfl Tryz.results62 Tryz.ntmps62 (by kernel_rfl) (by kernel_rfl) Tryz.call62 F62 fun x _ h => (r62 x).trans h)
abbrev ti17 : SPat := ⟨[(0, .s)], []⟩
abbrev to17 : SPat := ⟨[(2, .ptr 2 0), (3, .b)], [.box 2 (pl plD)]⟩
abbrev ts17_8 : SPat := ⟨[(2, .ptr 2 0), (4, .ptr 17 0), (5, .ptr 5 0), (6, .i .i64)], [.box 2 (pl plD), .box 5 (pl plD), .box 17 (pl [.s, .b])]⟩
abbrev ts17_15 : SPat := ⟨[(2, .ptr 2 0), (4, .ptr 17 0), (5, .ptr 5 0), (7, .i .i64)], [.box 2 (pl plD), .box 5 (pl plD), .box 17 (pl [.s, .b])]⟩
abbrev ts17_19 : SPat := ⟨[(2, .ptr 2 0), (4, .ptr 17 0), (5, .ptr 5 0), (8, .i .i64)], [.box 2 (pl plD), .box 5 (pl plD), .box 17 (pl [.s, .b])]⟩
abbrev ts17_26 : SPat := ⟨[(2, .ptr 2 0), (4, .ptr 17 0), (5, .ptr 5 0), (10, .i .i64)], [.box 2 (pl plD), .box 5 (pl plD), .box 17 (pl [.s, .b])]⟩
abbrev ts17_1000010 : SPat := ⟨[(2, .ptr 2 0), (4, .ptr 17 0), (5, .ptr 5 0), (6, .i .i64)], [.box 2 (pl plD), .box 5 (pl plD), .box 17 (pl [.s, .b])]⟩
abbrev ts17_1000017 : SPat := ⟨[(2, .ptr 2 0), (4, .ptr 17 0), (5, .ptr 5 0), (7, .i .i64)], [.box 2 (pl plD), .box 5 (pl plD), .box 17 (pl [.s, .b])]⟩
abbrev ts17_1000021 : SPat := ⟨[(2, .ptr 2 0), (4, .ptr 17 0), (5, .ptr 5 0), (8, .i .i64)], [.box 2 (pl plD), .box 5 (pl plD), .box 17 (pl [.s, .b])]⟩
abbrev ts17_1000028 : SPat := ⟨[(2, .ptr 2 0), (4, .ptr 17 0), (5, .ptr 5 0), (10, .i .i64)], [.box 2 (pl plD), .box 5 (pl plD), .box 17 (pl [.s, .b])]⟩
abbrev ts17_2000000 : SPat := ⟨[(2, .ptr 2 0), (4, .ptr 17 0), (5, .ptr 5 0)], [.box 2 (pl plD), .box 5 (pl plD), .box 17 (pl [.s, .b])]⟩
abbrev ts17_2000002 : SPat := ⟨[(2, .ptr 2 0), (4, .ptr 17 0), (5, .ptr 5 0)], [.box 2 (pl plD), .box 5 (pl plD), .box 17 (pl [.s, .b])]⟩
abbrev ts17_2000004 : SPat := ⟨[(2, .ptr 2 0), (4, .ptr 17 0), (5, .ptr 5 0)], [.box 2 (pl plD), .box 5 (pl plD), .box 17 (pl [.s, .b])]⟩
abbrev ts17_2000006 : SPat := ⟨[(2, .ptr 2 0), (4, .ptr 17 0), (5, .ptr 5 0)], [.box 2 (pl plD), .box 5 (pl plD), .box 17 (pl [.s, .b])]⟩
def tv17 : Nat → Option SPat := fun k => bif k == 8 then some ts17_8 else bif k == 15 then some ts17_15 else bif k == 19 then some ts17_19 else bif k == 26 then some ts17_26 else bif k == 1000010 then some ts17_1000010 else bif k == 1000017 then some ts17_1000017 else bif k == 1000021 then some ts17_1000021 else bif k == 1000028 then some ts17_1000028 else bif k == 2000000 then some ts17_2000000 else bif k == 2000002 then some ts17_2000002 else bif k == 2000004 then some ts17_2000004 else bif k == 2000006 then some ts17_2000006 else none
def tp17 : Nat → List Nat × Plan := fun id => bif id == 10 then ([0, 1, 2], (.br 3 [2] [0, 1] [] (.br 4 [3, 2] [0, 1] [] (.br 5 [4, 3, 2, 1, 0] [] [6] (.br 7 [6, 5, 4, 3, 2, 1, 0] [] [] .fin .fin) .fin) .fin) .fin)) else bif id == 17 then ([0, 1, 2], (.br 3 [2] [0, 1] [] (.br 4 [3, 2] [0, 1] [] (.br 5 [4, 3, 2, 1, 0] [] [6] (.br 7 [6, 5, 4, 3, 2, 1, 0] [] [] .fin .fin) .fin) .fin) .fin)) else bif id == 28 then ([0, 1, 2], (.br 3 [2] [0, 1] [] (.br 4 [3, 2] [0, 1] [] (.br 5 [4, 3, 2, 1, 0] [] [6] (.br 7 [6, 5, 4, 3, 2, 1, 0] [] [] .fin .fin) .fin) .fin) .fin)) else ([], .fin)
def F17 : List UInt8 → Option (Bool × Cls) := fun app =>
 cndO (decide ((900 : Int) < (app.length : Int)))
  (some ((false, [], (0 : Int), (0 : Int), (0 : Int), [], [], [])))
  (bindO (F57 ((4 : Int), app, false)) fun (y, y1, y2) =>
  cndO (!decide (y = [(83 : UInt8), (84 : UInt8), (79 : UInt8), (87 : UInt8)]))
   (some ((false, [], (0 : Int), (0 : Int), (0 : Int), [], [], [])))
   (bindO (F59 (y1, y2)) fun (y3, y4, y5) =>
   bindO (F58 (y3, (60 : Int), y4, y5)) fun (y6, y7, y8) =>
   bindE (Y := (Cls) × (Cls) × List UInt8 × Bool) (whileO (fun (v6, (o0, o1, o2, o3, o4, o5, o6), (o01, o11, o21, o31, o41, o51, o61), o02, o12) =>
     bindE (Y := Int × (Cls) × (Cls) × List UInt8 × Bool) (cndO (decide ((0 : Int) < v6))
       (cndO (!o12)
        (some (Sum.inl (v6, (o0, o1, o2, o3, o4, o5, o6), (o01, o11, o21, o31, o41, o51, o61), o02, o12)))
        (some (Sum.inr (Sum.inr (Sum.inl ((o0, o1, o2, o3, o4, o5, o6), (o01, o11, o21, o31, o41, o51, o61), o02, o12))))))
       (some (Sum.inr (Sum.inr (Sum.inl ((o0, o1, o2, o3, o4, o5, o6), (o01, o11, o21, o31, o41, o51, o61), o02, o12)))))) fun (v61, (o03, o13, o22, o32, o42, o52, o62), (o04, o14, o23, o33, o43, o53, o63), o05, o15) =>
     bindO (F60 (o05, o15)) fun ((y9, y10, y11, y12), y13, y14) =>
     grdO (decide (List.length o04 + (1 : Nat) ≤ (9223372036854775807 : Nat)) && decide ((List.length o04 + (1 : Nat)) * (40 : Nat) ≤ (140737488355328 : Nat))) (some (Sum.inl (IntKind.wrap .i64 (v61 - (1 : Int)), (o03, o13, o22, o32, o42, o52, o62), (o04 ++ [(y9, y10, y11, y12)], o14, o23, o33, o43, o53, o63), y13, y14)))) ((y6, ([], (0 : Int), (0 : Int), (0 : Int), [], [], []), ([], (0 : Int), (0 : Int), (0 : Int), [], [], []), y7, y8))) fun ((o0, o1, o2, o3, o4, o5, o6), (o01, o11, o21, o31, o41, o51, o61), o02, o12) =>
   bindO (F59 (o02, o12)) fun (y9, y10, y11) =>
   bindO (F61 (y10, y11)) fun (y12, y13, y14) =>
   bindO (F61 (y13, y14)) fun (y15, y16, y17) =>
   bindO (F59 (y16, y17)) fun (y18, y19, y20) =>
   bindO (F58 (y18, (3 : Int), y19, y20)) fun (y21, y22, y23) =>
   bindE (Y := (Cls) × (Cls) × List UInt8 × Bool) (whileO (fun (v7, (o03, o13, o22, o32, o42, o52, o62), (o04, o14, o23, o33, o43, o53, o63), o05, o15) =>
     bindE (Y := Int × (Cls) × (Cls) × List UInt8 × Bool) (cndO (decide ((0 : Int) < v7))
       (cndO (!o15)
        (some (Sum.inl (v7, (o03, o13, o22, o32, o42, o52, o62), (o04, o14, o23, o33, o43, o53, o63), o05, o15)))
        (some (Sum.inr (Sum.inr (Sum.inl ((o03, o13, o22, o32, o42, o52, o62), (o04, o14, o23, o33, o43, o53, o63), o05, o15))))))
       (some (Sum.inr (Sum.inr (Sum.inl ((o03, o13, o22, o32, o42, o52, o62), (o04, o14, o23, o33, o43, o53, o63), o05, o15)))))) fun (v71, (o06, o16, o24, o34, o44, o54, o64), (o07, o17, o25, o35, o45, o55, o65), o08, o18) =>
     bindO (F61 (o08, o18)) fun (y24, y25, y26) =>
     grdO (decide (List.length o45 + (1 : Nat) ≤ (9223372036854775807 : Nat)) && decide ((List.length o45 + (1 : Nat)) * (8 : Nat) ≤ (140737488355328 : Nat))) (some (Sum.inl (IntKind.wrap .i64 (v71 - (1 : Int)), (o06, o16, o24, o34, o44, o54, o64), (o07, o17, o25, o35, o45 ++ [y24], o55, o65), y25, y26)))) ((y21, (o0, o1, o2, o3, o4, o5, o6), (o01, y9, y12, y15, o41, o51, o61), y22, y23))) fun ((o03, o13, o22, o32, o42, o52, o62), (o04, o14, o23, o33, o43, o53, o63), o05, o15) =>
   bindO (F59 (o05, o15)) fun (y24, y25, y26) =>
   bindO (F58 (y24, (5 : Int), y25, y26)) fun (y27, y28, y29) =>
   bindE (Y := (Cls) × (Cls) × List UInt8 × Bool) (whileO (fun (v8, (o06, o16, o24, o34, o44, o54, o64), (o07, o17, o25, o35, o45, o55, o65), o08, o18) =>
     bindE (Y := Int × (Cls) × (Cls) × List UInt8 × Bool) (cndO (decide ((0 : Int) < v8))
       (cndO (!o18)
        (some (Sum.inl (v8, (o06, o16, o24, o34, o44, o54, o64), (o07, o17, o25, o35, o45, o55, o65), o08, o18)))
        (some (Sum.inr (Sum.inr (Sum.inl ((o06, o16, o24, o34, o44, o54, o64), (o07, o17, o25, o35, o45, o55, o65), o08, o18))))))
       (some (Sum.inr (Sum.inr (Sum.inl ((o06, o16, o24, o34, o44, o54, o64), (o07, o17, o25, o35, o45, o55, o65), o08, o18)))))) fun (v81, (o09, o19, o26, o36, o46, o56, o66), (o010, o110, o27, o37, o47, o57, o67), o011, o111) =>
     bindO (F59 (o011, o111)) fun (y30, y31, y32) =>
     bindO (F61 (y31, y32)) fun (y33, y34, y35) =>
     bindO (F61 (y34, y35)) fun (y36, y37, y38) =>
     grdO (decide (List.length o57 + (1 : Nat) ≤ (9223372036854775807 : Nat)) && decide ((List.length o57 + (1 : Nat)) * (24 : Nat) ≤ (140737488355328 : Nat))) (some (Sum.inl (IntKind.wrap .i64 (v81 - (1 : Int)), (o09, o19, o26, o36, o46, o56, o66), (o010, o110, o27, o37, o47, o57 ++ [(y30, y33, y36)], o67), y37, y38)))) ((y27, (o03, o13, o22, o32, o42, o52, o62), (o04, o14, o23, o33, o43, o53, o63), y28, y29))) fun ((o06, o16, o24, o34, o44, o54, o64), (o07, o17, o25, o35, o45, o55, o65), o08, o18) =>
   bindO (F59 (o08, o18)) fun (y30, y31, y32) =>
   bindO (F58 (y30, (6 : Int), y31, y32)) fun (y33, y34, y35) =>
   bindE (Y := (Cls) × (Cls) × List UInt8 × Bool) (whileO (fun (v10, (o09, o19, o26, o36, o46, o56, o66), (o010, o110, o27, o37, o47, o57, o67), o011, o111) =>
     bindE (Y := Int × (Cls) × (Cls) × List UInt8 × Bool) (cndO (decide ((0 : Int) < v10))
       (cndO (!o111)
        (some (Sum.inl (v10, (o09, o19, o26, o36, o46, o56, o66), (o010, o110, o27, o37, o47, o57, o67), o011, o111)))
        (some (Sum.inr (Sum.inr (Sum.inl ((o09, o19, o26, o36, o46, o56, o66), (o010, o110, o27, o37, o47, o57, o67), o011, o111))))))
       (some (Sum.inr (Sum.inr (Sum.inl ((o09, o19, o26, o36, o46, o56, o66), (o010, o110, o27, o37, o47, o57, o67), o011, o111)))))) fun (v101, (o012, o112, o28, o38, o48, o58, o68), (o013, o113, o29, o39, o49, o59, o69), o014, o114) =>
     bindO (F62 (o014, o114)) fun ((y36, y37, y38, y39, y40, y41, x, x1), x2, x3) =>
     grdO (decide (List.length o69 + (1 : Nat) ≤ (9223372036854775807 : Nat)) && decide ((List.length o69 + (1 : Nat)) * (104 : Nat) ≤ (140737488355328 : Nat))) (some (Sum.inl (IntKind.wrap .i64 (v101 - (1 : Int)), (o012, o112, o28, o38, o48, o58, o68), (o013, o113, o29, o39, o49, o59, o69 ++ [(y36, y37, y38, y39, y40, y41, x, x1)]), x2, x3)))) ((y33, (o06, o16, o24, o34, o44, o54, o64), (o07, o17, o25, o35, o45, o55, o65), y34, y35))) fun ((o09, o19, o26, o36, o46, o56, o66), (o010, o110, o27, o37, o47, o57, o67), o011, o111) =>
   cndO (o111)
    (some ((false, [], (0 : Int), (0 : Int), (0 : Int), [], [], [])))
    (cndO (!decide (o011 = []))
     (some ((false, [], (0 : Int), (0 : Int), (0 : Int), [], [], [])))
     (some ((true, o010, o110, o27, o37, o47, o57, o67))))))
theorem r17 (x : List UInt8) : funT T tb62 tp17 140 tv17 (bodyOf Tryz.f17) ti17 to17 x = F17 x := by kernel_rfl
def te17 : TEnt := ⟨17, false, [], ti17, to17.Den, F17, resF T [.cell 2 34, .tmp 3] 140 to17 []⟩
def tb17 : Nat → Option TEnt := insT 17 te17 tb62
theorem ok17 : TbOk Tryz.prog tb17 := TbOk.ins ok62 (fun_ok ok62 layOk mixed false _ ti17 to17 [] tp17 tv17 Tryz.func17 rfl Tryz.results17 Tryz.ntmps17 (by kernel_rfl) (by kernel_rfl) Tryz.call17 F17 fun x _ h => (r17 x).trans h)
abbrev ti147 : SPat := ⟨[(0, .sl tg27), (1, .sl tg27)], []⟩
abbrev to147 : SPat := ⟨[(4, .b)], []⟩
abbrev ts147_4 : SPat := ⟨[(0, .sl tg27), (1, .sl tg27), (12, .i .i64), (13, .i .i64)], []⟩
abbrev ts147_2000000 : SPat := ⟨[], []⟩
def tv147 : Nat → Option SPat := fun k => bif k == 4 then some ts147_4 else bif k == 2000000 then some ts147_2000000 else none
def tp147 : Nat → List Nat × Plan := fun id => bif id == 6 then ([0, 1, 2, 3, 4, 5, 6, 7, 8], .fin) else ([], .fin)
def F147 : List Cst × List Cst → Option (Bool) := fun (s1, s2) =>
 cndO (!decide ((s1.length : Int) = (s2.length : Int)))
  (some (false))
  (bindE (whileO (fun (s11, s21, v12, v13) =>
    cndO (decide (v13 < v12))
     (grdO (decide ((0 : Int) ≤ v13)) (atO (s11) v13.toNat fun x => grdO (decide ((0 : Int) ≤ v13)) (atO (s21) v13.toNat fun x1 => cndO (!(decide (x.1 = x1.1) && (decide (x.2.1 = x1.2.1) && (decide (x.2.2.1 = x1.2.2.1) && (decide (x.2.2.2 = x1.2.2.2) && true)))))
      (some (Sum.inr (Sum.inr false)))
      (some (Sum.inl (s11, s21, v12, IntKind.wrap .i64 (v13 + (1 : Int))))))))
     (some (Sum.inr (Sum.inl ())))) ((s1, s2, (s1.length : Int), (0 : Int)))) fun _ =>
  some (true))
theorem r147 (x : List Cst × List Cst) : funT T tb17 tp147 26 tv147 (bodyOf Tryz.f147) ti147 to147 x = F147 x := by kernel_rfl
def te147 : TEnt := ⟨147, true, [], ti147, to147.Den, F147, resF T [.tmp 4] 26 to147 []⟩
def tb147 : Nat → Option TEnt := insT 147 te147 tb17
theorem ok147 : TbOk Tryz.prog tb147 := TbOk.ins ok17 (fun_ok ok17 layOk mixed true _ ti147 to147 [] tp147 tv147 Tryz.func147 rfl Tryz.results147 Tryz.ntmps147 (by kernel_rfl) (by kernel_rfl) Tryz.call147 F147 fun x _ h => (r147 x).trans h)
abbrev ti148 : SPat := ⟨[(0, .sl (.int .i64)), (1, .sl (.int .i64))], []⟩
abbrev to148 : SPat := ⟨[(4, .b)], []⟩
abbrev ts148_4 : SPat := ⟨[(0, .sl (.int .i64)), (1, .sl (.int .i64)), (12, .i .i64), (13, .i .i64)], []⟩
abbrev ts148_2000000 : SPat := ⟨[], []⟩
def tv148 : Nat → Option SPat := fun k => bif k == 4 then some ts148_4 else bif k == 2000000 then some ts148_2000000 else none
def tp148 : Nat → List Nat × Plan := fun id => bif id == 6 then ([0, 1, 2, 3, 4, 5, 6, 7, 8], .fin) else ([], .fin)
def F148 : List Int × List Int → Option (Bool) := fun (s1, s2) =>
 cndO (!decide ((s1.length : Int) = (s2.length : Int)))
  (some (false))
  (bindE (whileO (fun (s11, s21, v12, v13) =>
    cndO (decide (v13 < v12))
     (grdO (decide ((0 : Int) ≤ v13)) (atO (s11) v13.toNat fun x => grdO (decide ((0 : Int) ≤ v13)) (atO (s21) v13.toNat fun x1 => cndO (!decide (x = x1))
      (some (Sum.inr (Sum.inr false)))
      (some (Sum.inl (s11, s21, v12, IntKind.wrap .i64 (v13 + (1 : Int))))))))
     (some (Sum.inr (Sum.inl ())))) ((s1, s2, (s1.length : Int), (0 : Int)))) fun _ =>
  some (true))
theorem r148 (x : List Int × List Int) : funT T tb147 tp148 26 tv148 (bodyOf Tryz.f148) ti148 to148 x = F148 x := by kernel_rfl
def te148 : TEnt := ⟨148, true, [], ti148, to148.Den, F148, resF T [.tmp 4] 26 to148 []⟩
def tb148 : Nat → Option TEnt := insT 148 te148 tb147
theorem ok148 : TbOk Tryz.prog tb148 := TbOk.ins ok147 (fun_ok ok147 layOk mixed true _ ti148 to148 [] tp148 tv148 Tryz.func148 rfl Tryz.results148 Tryz.ntmps148 (by kernel_rfl) (by kernel_rfl) Tryz.call148 F148 fun x _ h => (r148 x).trans h)
abbrev ti149 : SPat := ⟨[(0, .sl tg89), (1, .sl tg89)], []⟩
abbrev to149 : SPat := ⟨[(4, .b)], []⟩
abbrev ts149_4 : SPat := ⟨[(0, .sl tg89), (1, .sl tg89), (12, .i .i64), (13, .i .i64)], []⟩
abbrev ts149_2000000 : SPat := ⟨[], []⟩
def tv149 : Nat → Option SPat := fun k => bif k == 4 then some ts149_4 else bif k == 2000000 then some ts149_2000000 else none
def tp149 : Nat → List Nat × Plan := fun id => bif id == 6 then ([0, 1, 2, 3, 4, 5, 6, 7, 8], .fin) else ([], .fin)
def F149 : List (Int × Int × Int) × List (Int × Int × Int) → Option (Bool) := fun (s1, s2) =>
 cndO (!decide ((s1.length : Int) = (s2.length : Int)))
  (some (false))
  (bindE (whileO (fun (s11, s21, v12, v13) =>
    cndO (decide (v13 < v12))
     (grdO (decide ((0 : Int) ≤ v13)) (atO (s11) v13.toNat fun x => grdO (decide ((0 : Int) ≤ v13)) (atO (s21) v13.toNat fun x1 => cndO (!(decide (x.1 = x1.1) && (decide (x.2.1 = x1.2.1) && (decide (x.2.2 = x1.2.2) && true))))
      (some (Sum.inr (Sum.inr false)))
      (some (Sum.inl (s11, s21, v12, IntKind.wrap .i64 (v13 + (1 : Int))))))))
     (some (Sum.inr (Sum.inl ())))) ((s1, s2, (s1.length : Int), (0 : Int)))) fun _ =>
  some (true))
theorem r149 (x : List (Int × Int × Int) × List (Int × Int × Int)) : funT T tb148 tp149 26 tv149 (bodyOf Tryz.f149) ti149 to149 x = F149 x := by kernel_rfl
def te149 : TEnt := ⟨149, true, [], ti149, to149.Den, F149, resF T [.tmp 4] 26 to149 []⟩
def tb149 : Nat → Option TEnt := insT 149 te149 tb148
theorem ok149 : TbOk Tryz.prog tb149 := TbOk.ins ok148 (fun_ok ok148 layOk mixed true _ ti149 to149 [] tp149 tv149 Tryz.func149 rfl Tryz.results149 Tryz.ntmps149 (by kernel_rfl) (by kernel_rfl) Tryz.call149 F149 fun x _ h => (r149 x).trans h)
abbrev ti224 : SPat := ⟨[(0, .sl tg147), (1, .sl tg147)], []⟩
abbrev to224 : SPat := ⟨[(4, .b)], []⟩
abbrev ts224_4 : SPat := ⟨[(0, .sl tg147), (1, .sl tg147), (12, .i .i64), (13, .i .i64)], []⟩
abbrev ts224_2000000 : SPat := ⟨[], []⟩
def tv224 : Nat → Option SPat := fun k => bif k == 4 then some ts224_4 else bif k == 2000000 then some ts224_2000000 else none
def tp224 : Nat → List Nat × Plan := fun id => bif id == 6 then ([0, 1, 2, 3, 4, 5, 6, 7, 8], .fin) else ([], .fin)
def F224 : List (Int × Int × Int × Int) × List (Int × Int × Int × Int) → Option (Bool) := fun (s1, s2) =>
 cndO (!decide ((s1.length : Int) = (s2.length : Int)))
  (some (false))
  (bindE (whileO (fun (s11, s21, v12, v13) =>
    cndO (decide (v13 < v12))
     (grdO (decide ((0 : Int) ≤ v13)) (atO (s11) v13.toNat fun x => grdO (decide ((0 : Int) ≤ v13)) (atO (s21) v13.toNat fun x1 => cndO (!(decide (x.1 = x1.1) && (decide (x.2.1 = x1.2.1) && (decide (x.2.2.1 = x1.2.2.1) && (decide (x.2.2.2 = x1.2.2.2) && true)))))
      (some (Sum.inr (Sum.inr false)))
      (some (Sum.inl (s11, s21, v12, IntKind.wrap .i64 (v13 + (1 : Int))))))))
     (some (Sum.inr (Sum.inl ())))) ((s1, s2, (s1.length : Int), (0 : Int)))) fun _ =>
  some (true))
theorem r224 (x : List (Int × Int × Int × Int) × List (Int × Int × Int × Int)) : funT T tb149 tp224 26 tv224 (bodyOf Tryz.f224) ti224 to224 x = F224 x := by kernel_rfl
def te224 : TEnt := ⟨224, true, [], ti224, to224.Den, F224, resF T [.tmp 4] 26 to224 []⟩
def tb224 : Nat → Option TEnt := insT 224 te224 tb149
theorem ok224 : TbOk Tryz.prog tb224 := TbOk.ins ok149 (fun_ok ok149 layOk mixed true _ ti224 to224 [] tp224 tv224 Tryz.func224 rfl Tryz.results224 Tryz.ntmps224 (by kernel_rfl) (by kernel_rfl) Tryz.call224 F224 fun x _ h => (r224 x).trans h)
abbrev ti227 : SPat := ⟨[(0, .sl tg184), (1, .sl tg184)], []⟩
abbrev to227 : SPat := ⟨[(4, .b)], []⟩
abbrev ts227_4 : SPat := ⟨[(0, .sl tg184), (1, .sl tg184), (12, .i .i64), (13, .i .i64)], []⟩
abbrev ts227_2000000 : SPat := ⟨[], []⟩
def tv227 : Nat → Option SPat := fun k => bif k == 4 then some ts227_4 else bif k == 2000000 then some ts227_2000000 else none
def tp227 : Nat → List Nat × Plan := fun id => bif id == 6 then ([0, 1, 2, 3, 4, 5, 6, 7, 8], .fin) else ([], .fin)
def F227 : List (Int × Int) × List (Int × Int) → Option (Bool) := fun (s1, s2) =>
 cndO (!decide ((s1.length : Int) = (s2.length : Int)))
  (some (false))
  (bindE (whileO (fun (s11, s21, v12, v13) =>
    cndO (decide (v13 < v12))
     (grdO (decide ((0 : Int) ≤ v13)) (atO (s11) v13.toNat fun x => grdO (decide ((0 : Int) ≤ v13)) (atO (s21) v13.toNat fun x1 => cndO (!(decide (x.1 = x1.1) && (decide (x.2 = x1.2) && true)))
      (some (Sum.inr (Sum.inr false)))
      (some (Sum.inl (s11, s21, v12, IntKind.wrap .i64 (v13 + (1 : Int))))))))
     (some (Sum.inr (Sum.inl ())))) ((s1, s2, (s1.length : Int), (0 : Int)))) fun _ =>
  some (true))
theorem r227 (x : List (Int × Int) × List (Int × Int)) : funT T tb224 tp227 26 tv227 (bodyOf Tryz.f227) ti227 to227 x = F227 x := by kernel_rfl
def te227 : TEnt := ⟨227, true, [], ti227, to227.Den, F227, resF T [.tmp 4] 26 to227 []⟩
def tb227 : Nat → Option TEnt := insT 227 te227 tb224
theorem ok227 : TbOk Tryz.prog tb227 := TbOk.ins ok224 (fun_ok ok224 layOk mixed true _ ti227 to227 [] tp227 tv227 Tryz.func227 rfl Tryz.results227 Tryz.ntmps227 (by kernel_rfl) (by kernel_rfl) Tryz.call227 F227 fun x _ h => (r227 x).trans h)
end Go.Proofs.YtdpapeledldifaaGreat
end
noncomputable section
namespace Go.Proofs.YtdpapeledldifaaGreat
open Go Go.AM Go.TM
set_option maxRecDepth 100000
set_option maxHeartbeats 4000000
abbrev ti226 : SPat := ⟨[(0, .agg (pl [.i .i64, .sl tg184, .sl tg184])), (1, .agg (pl [.i .i64, .sl tg184, .sl tg184]))], []⟩
abbrev to226 : SPat := ⟨[(4, .b)], []⟩
def F226 : (Frm) × Frm → Option (Bool) := fun ((f0, f1, f2), g0, g1, g2) =>
 cndO (decide (f0 = g0))
  (bindO (F227 (f1, g1)) fun y =>
  cndO (y)
   (bindO (F227 (f2, g2)) fun y1 =>
   some (y1))
   (some (false)))
  (some (false))
theorem r226 (x : (Frm) × Frm) : funT T tb227 noPl 24 noIv (bodyOf Tryz.f226) ti226 to226 x = F226 x := by kernel_rfl
def te226 : TEnt := ⟨226, true, [], ti226, to226.Den, F226, resF T [.tmp 4] 24 to226 []⟩
def tb226 : Nat → Option TEnt := insT 226 te226 tb227
theorem ok226 : TbOk Tryz.prog tb226 := TbOk.ins ok227 (fun_ok ok227 layOk mixed true _ ti226 to226 [] noPl noIv Tryz.func226 rfl Tryz.results226 Tryz.ntmps226 (by kernel_rfl) (by kernel_rfl) Tryz.call226 F226 fun x _ h => (r226 x).trans h)
abbrev ti227225 : SPat := ⟨[(0, .sl tg100), (1, .sl tg100), (2, .fn 226 (pl []))], []⟩
abbrev to227225 : SPat := ⟨[(6, .b)], []⟩
abbrev ts227225_4 : SPat := ⟨[(1, .sl tg100), (2, .fn 226 (pl [])), (15, .sl tg100), (16, .i .i64), (17, .i .i64)], []⟩
abbrev ts227225_2000000 : SPat := ⟨[], []⟩
def tv227225 : Nat → Option SPat := fun k => bif k == 4 then some ts227225_4 else bif k == 2000000 then some ts227225_2000000 else none
def F227225 : List Frm × List Frm → Option (Bool) := fun (s1, s2) =>
 cndO (!decide ((s1.length : Int) = (s2.length : Int)))
  (some (false))
  (bindE (whileO (fun (s21, v15, v16, v17) =>
    cndO (decide (v17 < v16))
     (grdO (decide ((0 : Int) ≤ v17)) (atO (v15) v17.toNat fun x => grdO (decide ((0 : Int) ≤ v17)) (atO (s21) v17.toNat fun x1 => bindO (F226 ((x.1, x.2.1, x.2.2), x1.1, x1.2.1, x1.2.2)) fun y =>
     cndO (!y)
      (some (Sum.inr (Sum.inr false)))
      (some (Sum.inl (s21, v15, v16, IntKind.wrap .i64 (v17 + (1 : Int))))))))
     (some (Sum.inr (Sum.inl ())))) ((s2, s1, (s1.length : Int), (0 : Int)))) fun _ =>
  some (true))
theorem r227225 (x : List Frm × List Frm) : funT T tb226 noPl 32 tv227225 (bodyOf Tryz.f225) ti227225 to227225 x = F227225 x := by kernel_rfl
def te227225 : TEnt := ⟨225, true, [], ti227225, to227225.Den, F227225, resF T [.tmp 6] 32 to227225 []⟩
def tb227225 : Nat → Option TEnt := insT 227225 te227225 tb226
theorem ok227225 : TbOk Tryz.prog tb227225 := TbOk.ins ok226 (fun_ok ok226 layOk mixed true _ ti227225 to227225 [] noPl tv227225 Tryz.func225 rfl Tryz.results225 Tryz.ntmps225 (by kernel_rfl) (by kernel_rfl) Tryz.call225 F227225 fun x _ h => (r227225 x).trans h)
abbrev ti151 : SPat := ⟨[(0, .agg (pl plM)), (1, .agg (pl plM))], []⟩
abbrev to151 : SPat := ⟨[(4, .b)], []⟩
def F151 : (Mth) × Mth → Option (Bool) := fun ((a0, a1, a2, a3, a4, a5, a6, a7), b0, b1, b2, b3, b4, b5, b6, b7) =>
 cndO (decide (a0 = b0))
  (cndO (decide (a1 = b1))
   (cndO (decide (a2 = b2))
    (cndO (decide (a3 = b3))
     (cndO (decide (a4 = b4))
      (cndO (decide (a5 = b5))
       (bindO (F224 (a6, b6)) fun y =>
       cndO (y)
        (bindO (F227225 (a7, b7)) fun y1 =>
        some (y1))
        (some (false)))
       (some (false)))
      (some (false)))
     (some (false)))
    (some (false)))
   (some (false)))
  (some (false))
theorem r151 (x : (Mth) × Mth) : funT T tb227225 noPl 59 noIv (bodyOf Tryz.f151) ti151 to151 x = F151 x := by kernel_rfl
def te151 : TEnt := ⟨151, true, [], ti151, to151.Den, F151, resF T [.tmp 4] 59 to151 []⟩
def tb151 : Nat → Option TEnt := insT 151 te151 tb227225
theorem ok151 : TbOk Tryz.prog tb151 := TbOk.ins ok227225 (fun_ok ok227225 layOk mixed true _ ti151 to151 [] noPl noIv Tryz.func151 rfl Tryz.results151 Tryz.ntmps151 (by kernel_rfl) (by kernel_rfl) Tryz.call151 F151 fun x _ h => (r151 x).trans h)
abbrev ti152150 : SPat := ⟨[(0, .sl tg53), (1, .sl tg53), (2, .fn 151 (pl []))], []⟩
abbrev to152150 : SPat := ⟨[(6, .b)], []⟩
abbrev ts152150_4 : SPat := ⟨[(1, .sl tg53), (2, .fn 151 (pl [])), (15, .sl tg53), (16, .i .i64), (17, .i .i64)], []⟩
abbrev ts152150_2000000 : SPat := ⟨[], []⟩
def tv152150 : Nat → Option SPat := fun k => bif k == 4 then some ts152150_4 else bif k == 2000000 then some ts152150_2000000 else none
def F152150 : List Mth × List Mth → Option (Bool) := fun (s1, s2) =>
 cndO (!decide ((s1.length : Int) = (s2.length : Int)))
  (some (false))
  (bindE (whileO (fun (s21, v15, v16, v17) =>
    cndO (decide (v17 < v16))
     (grdO (decide ((0 : Int) ≤ v17)) (atO (v15) v17.toNat fun x => grdO (decide ((0 : Int) ≤ v17)) (atO (s21) v17.toNat fun x1 => bindO (F151 ((x.1, x.2.1, x.2.2.1, x.2.2.2.1, x.2.2.2.2.1, x.2.2.2.2.2.1, x.2.2.2.2.2.2.1, x.2.2.2.2.2.2.2), x1.1, x1.2.1, x1.2.2.1, x1.2.2.2.1, x1.2.2.2.2.1, x1.2.2.2.2.2.1, x1.2.2.2.2.2.2.1, x1.2.2.2.2.2.2.2)) fun y =>
     cndO (!y)
      (some (Sum.inr (Sum.inr false)))
      (some (Sum.inl (s21, v15, v16, IntKind.wrap .i64 (v17 + (1 : Int))))))))
     (some (Sum.inr (Sum.inl ())))) ((s2, s1, (s1.length : Int), (0 : Int)))) fun _ =>
  some (true))
theorem r152150 (x : List Mth × List Mth) : funT T tb151 noPl 32 tv152150 (bodyOf Tryz.f150) ti152150 to152150 x = F152150 x := by kernel_rfl
def te152150 : TEnt := ⟨150, true, [], ti152150, to152150.Den, F152150, resF T [.tmp 6] 32 to152150 []⟩
def tb152150 : Nat → Option TEnt := insT 152150 te152150 tb151
theorem ok152150 : TbOk Tryz.prog tb152150 := TbOk.ins ok151 (fun_ok ok151 layOk mixed true _ ti152150 to152150 [] noPl tv152150 Tryz.func150 rfl Tryz.results150 Tryz.ntmps150 (by kernel_rfl) (by kernel_rfl) Tryz.call150 F152150 fun x _ h => (r152150 x).trans h)
abbrev ti68 : SPat := ⟨[(0, .agg (pl plC)), (1, .agg (pl plC))], []⟩
abbrev to68 : SPat := ⟨[(4, .b)], []⟩
def F68 : (Cls) × Cls → Option (Bool) := fun ((a0, a1, a2, a3, a4, a5, a6), b0, b1, b2, b3, b4, b5, b6) =>
 bindO (F147 (a0, b0)) fun y =>
 cndO (y)
  (cndO (decide (a1 = b1))
   (cndO (decide (a2 = b2))
    (cndO (decide (a3 = b3))
     (bindO (F148 (a4, b4)) fun y1 =>
     cndO (y1)
      (bindO (F149 (a5, b5)) fun y2 =>
      cndO (y2)
       (bindO (F152150 (a6, b6)) fun y3 =>
       some (y3))
       (some (false)))
      (some (false)))
     (some (false)))
    (some (false)))
   (some (false)))
  (some (false))
theorem r68 (x : (Cls) × Cls) : funT T tb152150 noPl 52 noIv (bodyOf Tryz.f68) ti68 to68 x = F68 x := by kernel_rfl
def te68 : TEnt := ⟨68, true, [], ti68, to68.Den, F68, resF T [.tmp 4] 52 to68 []⟩
def tb68 : Nat → Option TEnt := insT 68 te68 tb152150
theorem ok68 : TbOk Tryz.prog tb68 := TbOk.ins ok152150 (fun_ok ok152150 layOk mixed true _ ti68 to68 [] noPl noIv Tryz.func68 rfl Tryz.results68 Tryz.ntmps68 (by kernel_rfl) (by kernel_rfl) Tryz.call68 F68 fun x _ h => (r68 x).trans h)
abbrev ti20 : SPat := ⟨[(0, .agg (pl plC))], []⟩
abbrev to20 : SPat := ⟨[(2, .s)], []⟩
def F20 : Cls → Option (List UInt8) := fun (c0, c1, c2, c3, c4, c5, c6) =>
 bindO (F66 (c0, c1, c2, c3, c4, c5, c6)) fun y =>
 cndO (!y)
  (some ([]))
  (bindO (F67 (c0, c1, c2, c3, c4, c5, c6)) fun y1 =>
  bindO (F17 y1) fun (y2, y3, y4, y5, y6, y7, x, x1) =>
  cndO (!y2)
   (some ([]))
   (bindO (F68 ((c0, c1, c2, c3, c4, c5, c6), y3, y4, y5, y6, y7, x, x1)) fun y8 =>
   cndO (!y8)
    (some ([]))
    (some (y1))))
theorem r20 (x : Cls) : funT T tb68 noPl 25 noIv (bodyOf Tryz.f20) ti20 to20 x = F20 x := by kernel_rfl
def te20 : TEnt := ⟨20, true, [], ti20, to20.Den, F20, resF T [.tmp 2] 25 to20 []⟩
def tb20 : Nat → Option TEnt := insT 20 te20 tb68
theorem ok20 : TbOk Tryz.prog tb20 := TbOk.ins ok68 (fun_ok ok68 layOk mixed true _ ti20 to20 [] noPl noIv Tryz.func20 rfl Tryz.results20 Tryz.ntmps20 (by kernel_rfl) (by kernel_rfl) Tryz.call20 F20 fun x _ h => (r20 x).trans h)
abbrev ti89 : SPat := ⟨[(0, .i .i64), (1, .i .i64), (2, .i .i64)], []⟩
abbrev to89 : SPat := ⟨[(6, .b)], []⟩
def F89 : Int × Int × Int → Option (Bool) := fun (n, low, high) =>
 cndO (decide (low ≤ n))
  (some (decide (n ≤ high)))
  (some (false))
theorem r89 (x : Int × Int × Int) : funT T tb20 noPl 15 noIv (bodyOf Tryz.f89) ti89 to89 x = F89 x := by kernel_rfl
def te89 : TEnt := ⟨89, true, [], ti89, to89.Den, F89, resF T [.tmp 6] 15 to89 []⟩
def tb89 : Nat → Option TEnt := insT 89 te89 tb20
theorem ok89 : TbOk Tryz.prog tb89 := TbOk.ins ok20 (fun_ok ok20 layOk mixed true _ ti89 to89 [] noPl noIv Tryz.func89 rfl Tryz.results89 Tryz.ntmps89 (by kernel_rfl) (by kernel_rfl) Tryz.call89 F89 fun x _ h => (r89 x).trans h)
abbrev ti48 : SPat := ⟨[(0, .s)], []⟩
abbrev to48 : SPat := ⟨[(2, .b)], []⟩
abbrev ts48_4 : SPat := ⟨[(0, .s), (20, .i .i64), (21, .i .i64)], []⟩
abbrev ts48_1000003 : SPat := ⟨[(0, .s)], []⟩
abbrev ts48_2000000 : SPat := ⟨[], []⟩
abbrev ts48_2000001 : SPat := ⟨[(0, .s), (20, .i .i64), (21, .i .i64)], []⟩
def tv48 : Nat → Option SPat := fun k => bif k == 4 then some ts48_4 else bif k == 1000003 then some ts48_1000003 else bif k == 2000000 then some ts48_2000000 else bif k == 2000001 then some ts48_2000001 else none
def F48 : List UInt8 → Option (Bool) := fun s =>
 bindE (Y := List UInt8) (bindO (F89 ((s.length : Int), (1 : Int), (8 : Int))) fun y =>
  cndO (!y)
   (some (Sum.inr false))
   (atO (s) ((0 : Nat)) fun x => cndO (decide ((48 : Int) ≤ (x.toNat : Int)))
    (atO (s) ((0 : Nat)) fun x1 => cndO (decide ((x1.toNat : Int) ≤ (57 : Int)))
     (some (Sum.inr false))
     (some (Sum.inl s)))
    (some (Sum.inl s)))) fun s1 =>
 bindE (whileO (fun (s2, v20, v21) =>
   cndO (decide (v21 < v20))
    (bindE (Y := List UInt8 × Int × Int) (grdO (decide ((0 : Int) ≤ v21)) (atO (s2) v21.toNat fun x => cndO (decide ((97 : Int) ≤ (x.toNat : Int)))
      (cndO (decide ((x.toNat : Int) ≤ (122 : Int)))
       (some (Sum.inl (s2, v20, v21)))
       (cndO (decide ((65 : Int) ≤ (x.toNat : Int)))
        (cndO (decide ((x.toNat : Int) ≤ (90 : Int)))
         (some (Sum.inl (s2, v20, v21)))
         (cndO (decide ((48 : Int) ≤ (x.toNat : Int)))
          (cndO (!decide ((x.toNat : Int) ≤ (57 : Int)))
           (some (Sum.inr (Sum.inr (Sum.inr false))))
           (some (Sum.inl (s2, v20, v21))))
          (some (Sum.inr (Sum.inr (Sum.inr false))))))
        (cndO (decide ((48 : Int) ≤ (x.toNat : Int)))
         (cndO (!decide ((x.toNat : Int) ≤ (57 : Int)))
          (some (Sum.inr (Sum.inr (Sum.inr false))))
          (some (Sum.inl (s2, v20, v21))))
         (some (Sum.inr (Sum.inr (Sum.inr false)))))))
      (cndO (decide ((65 : Int) ≤ (x.toNat : Int)))
       (cndO (decide ((x.toNat : Int) ≤ (90 : Int)))
        (some (Sum.inl (s2, v20, v21)))
        (cndO (decide ((48 : Int) ≤ (x.toNat : Int)))
         (cndO (!decide ((x.toNat : Int) ≤ (57 : Int)))
          (some (Sum.inr (Sum.inr (Sum.inr false))))
          (some (Sum.inl (s2, v20, v21))))
         (some (Sum.inr (Sum.inr (Sum.inr false))))))
       (cndO (decide ((48 : Int) ≤ (x.toNat : Int)))
        (cndO (!decide ((x.toNat : Int) ≤ (57 : Int)))
         (some (Sum.inr (Sum.inr (Sum.inr false))))
         (some (Sum.inl (s2, v20, v21))))
        (some (Sum.inr (Sum.inr (Sum.inr false)))))))) fun (s3, v201, v211) =>
    some (Sum.inl (s3, v201, IntKind.wrap .i64 (v211 + (1 : Int)))))
    (some (Sum.inr (Sum.inl ())))) ((s1, (s1.length : Int), (0 : Int)))) fun _ =>
 some (true)
theorem r48 (x : List UInt8) : funT T tb89 noPl 51 tv48 (bodyOf Tryz.f48) ti48 to48 x = F48 x := by kernel_rfl
def te48 : TEnt := ⟨48, true, [], ti48, to48.Den, F48, resF T [.tmp 2] 51 to48 []⟩
def tb48 : Nat → Option TEnt := insT 48 te48 tb89
theorem ok48 : TbOk Tryz.prog tb48 := TbOk.ins ok89 (fun_ok ok89 layOk mixed true _ ti48 to48 [] noPl tv48 Tryz.func48 rfl Tryz.results48 Tryz.ntmps48 (by kernel_rfl) (by kernel_rfl) Tryz.call48 F48 fun x _ h => (r48 x).trans h)
abbrev ti293 : SPat := ⟨[(0, .s), (1, .s)], []⟩
abbrev to293 : SPat := ⟨[(4, .b)], []⟩
def F293 : List UInt8 × List UInt8 → Option (Bool) := fun (s, prefix_) =>
 cndO (decide ((prefix_.length : Int) ≤ (s.length : Int)))
  (grdO (decide ((0 : Int) ≤ (prefix_.length : Int)) && decide ((prefix_.length : Int) ≤ (s.length : Int))) (some (decide (List.drop (0 : Nat) (List.take (Int.toNat (prefix_.length : Int)) s) = prefix_))))
  (some (false))
theorem r293 (x : List UInt8 × List UInt8) : funT T tb48 noPl 18 noIv (bodyOf Tryz.f293) ti293 to293 x = F293 x := by kernel_rfl
def te293 : TEnt := ⟨293, true, [], ti293, to293.Den, F293, resF T [.tmp 4] 18 to293 []⟩
def tb293 : Nat → Option TEnt := insT 293 te293 tb48
theorem ok293 : TbOk Tryz.prog tb293 := TbOk.ins ok48 (fun_ok ok48 layOk mixed true _ ti293 to293 [] noPl noIv Tryz.func293 rfl Tryz.results293 Tryz.ntmps293 (by kernel_rfl) (by kernel_rfl) Tryz.call293 F293 fun x _ h => (r293 x).trans h)
abbrev ti259 : SPat := ⟨[(0, .s), (1, .s)], []⟩
abbrev to259 : SPat := ⟨[(4, .s), (5, .b)], []⟩
def F259 : List UInt8 × List UInt8 → Option (List UInt8 × Bool) := fun (s, prefix_) =>
 bindO (F293 (s, prefix_)) fun y =>
 cndO (!y)
  (some ((s, false)))
  (grdO (decide ((0 : Int) ≤ (prefix_.length : Int)) && decide ((prefix_.length : Int) ≤ (s.length : Int)) && decide ((s.length : Int) ≤ (s.length : Int))) (some ((List.drop (Int.toNat (prefix_.length : Int)) (List.take (Int.toNat (s.length : Int)) s), true))))
theorem r259 (x : List UInt8 × List UInt8) : funT T tb293 noPl 15 noIv (bodyOf Tryz.f259) ti259 to259 x = F259 x := by kernel_rfl
def te259 : TEnt := ⟨259, true, [], ti259, to259.Den, F259, resF T [.tmp 4, .tmp 5] 15 to259 []⟩
def tb259 : Nat → Option TEnt := insT 259 te259 tb293
theorem ok259 : TbOk Tryz.prog tb259 := TbOk.ins ok293 (fun_ok ok293 layOk mixed true _ ti259 to259 [] noPl noIv Tryz.func259 rfl Tryz.results259 Tryz.ntmps259 (by kernel_rfl) (by kernel_rfl) Tryz.call259 F259 fun x _ h => (r259 x).trans h)
abbrev ti204 : SPat := ⟨[(0, .s), (1, .s)], []⟩
abbrev to204 : SPat := ⟨[(4, .s), (5, .b)], []⟩
def F204 : List UInt8 × List UInt8 → Option (List UInt8 × Bool) := fun (s, prefix_) =>
 bindO (F259 (s, prefix_)) fun (y, y1) =>
 some ((y, y1))
theorem r204 (x : List UInt8 × List UInt8) : funT T tb259 noPl 11 noIv (bodyOf Tryz.f204) ti204 to204 x = F204 x := by kernel_rfl
def te204 : TEnt := ⟨204, true, [], ti204, to204.Den, F204, resF T [.tmp 4, .tmp 5] 11 to204 []⟩
def tb204 : Nat → Option TEnt := insT 204 te204 tb259
theorem ok204 : TbOk Tryz.prog tb204 := TbOk.ins ok259 (fun_ok ok259 layOk mixed true _ ti204 to204 [] noPl noIv Tryz.func204 rfl Tryz.results204 Tryz.ntmps204 (by kernel_rfl) (by kernel_rfl) Tryz.call204 F204 fun x _ h => (r204 x).trans h)
abbrev ti294 : SPat := ⟨[(0, .s), (1, .s)], []⟩
abbrev to294 : SPat := ⟨[(4, .b)], []⟩
def F294 : List UInt8 × List UInt8 → Option (Bool) := fun (s, suffix) =>
 cndO (decide ((suffix.length : Int) ≤ (s.length : Int)))
  (grdO (decide ((0 : Int) ≤ IntKind.wrap .i64 ((s.length : Int) - (suffix.length : Int))) && decide (IntKind.wrap .i64 ((s.length : Int) - (suffix.length : Int)) ≤ (s.length : Int)) && decide ((s.length : Int) ≤ (s.length : Int))) (some (decide (List.drop (Int.toNat (IntKind.wrap .i64 ((s.length : Int) - (suffix.length : Int)))) (List.take (Int.toNat (s.length : Int)) s) = suffix))))
  (some (false))
theorem r294 (x : List UInt8 × List UInt8) : funT T tb204 noPl 21 noIv (bodyOf Tryz.f294) ti294 to294 x = F294 x := by kernel_rfl
def te294 : TEnt := ⟨294, true, [], ti294, to294.Den, F294, resF T [.tmp 4] 21 to294 []⟩
def tb294 : Nat → Option TEnt := insT 294 te294 tb204
theorem ok294 : TbOk Tryz.prog tb294 := TbOk.ins ok204 (fun_ok ok204 layOk mixed true _ ti294 to294 [] noPl noIv Tryz.func294 rfl Tryz.results294 Tryz.ntmps294 (by kernel_rfl) (by kernel_rfl) Tryz.call294 F294 fun x _ h => (r294 x).trans h)
abbrev ti260 : SPat := ⟨[(0, .s), (1, .s)], []⟩
abbrev to260 : SPat := ⟨[(4, .s), (5, .b)], []⟩
def F260 : List UInt8 × List UInt8 → Option (List UInt8 × Bool) := fun (s, suffix) =>
 bindO (F294 (s, suffix)) fun y =>
 cndO (!y)
  (some ((s, false)))
  (grdO (decide ((0 : Int) ≤ IntKind.wrap .i64 ((s.length : Int) - (suffix.length : Int))) && decide (IntKind.wrap .i64 ((s.length : Int) - (suffix.length : Int)) ≤ (s.length : Int))) (some ((List.drop (0 : Nat) (List.take (Int.toNat (IntKind.wrap .i64 ((s.length : Int) - (suffix.length : Int)))) s), true))))
theorem r260 (x : List UInt8 × List UInt8) : funT T tb294 noPl 18 noIv (bodyOf Tryz.f260) ti260 to260 x = F260 x := by kernel_rfl
def te260 : TEnt := ⟨260, true, [], ti260, to260.Den, F260, resF T [.tmp 4, .tmp 5] 18 to260 []⟩
def tb260 : Nat → Option TEnt := insT 260 te260 tb294
theorem ok260 : TbOk Tryz.prog tb260 := TbOk.ins ok294 (fun_ok ok294 layOk mixed true _ ti260 to260 [] noPl noIv Tryz.func260 rfl Tryz.results260 Tryz.ntmps260 (by kernel_rfl) (by kernel_rfl) Tryz.call260 F260 fun x _ h => (r260 x).trans h)
abbrev ti205 : SPat := ⟨[(0, .s), (1, .s)], []⟩
abbrev to205 : SPat := ⟨[(4, .s), (5, .b)], []⟩
def F205 : List UInt8 × List UInt8 → Option (List UInt8 × Bool) := fun (s, suffix) =>
 bindO (F260 (s, suffix)) fun (y, y1) =>
 some ((y, y1))
theorem r205 (x : List UInt8 × List UInt8) : funT T tb260 noPl 11 noIv (bodyOf Tryz.f205) ti205 to205 x = F205 x := by kernel_rfl
def te205 : TEnt := ⟨205, true, [], ti205, to205.Den, F205, resF T [.tmp 4, .tmp 5] 11 to205 []⟩
def tb205 : Nat → Option TEnt := insT 205 te205 tb260
theorem ok205 : TbOk Tryz.prog tb205 := TbOk.ins ok260 (fun_ok ok260 layOk mixed true _ ti205 to205 [] noPl noIv Tryz.func205 rfl Tryz.results205 Tryz.ntmps205 (by kernel_rfl) (by kernel_rfl) Tryz.call205 F205 fun x _ h => (r205 x).trans h)
abbrev ti115 : SPat := ⟨[(0, .s)], []⟩
abbrev to115 : SPat := ⟨[(2, .s), (3, .b)], []⟩
def F115 : List UInt8 → Option (List UInt8 × Bool) := fun s =>
 bindO (F204 (s, [(76 : UInt8)])) fun (y, y1) =>
 bindO (F205 (y, [(59 : UInt8)])) fun (y2, y3) =>
 cndO (y1)
  (cndO (y3)
   (bindO (F48 y2) fun y4 =>
   some ((y2, y4)))
   (some ((y2, false))))
  (some ((y2, false)))
theorem r115 (x : List UInt8) : funT T tb205 noPl 27 noIv (bodyOf Tryz.f115) ti115 to115 x = F115 x := by kernel_rfl
def te115 : TEnt := ⟨115, true, [], ti115, to115.Den, F115, resF T [.tmp 2, .tmp 3] 27 to115 []⟩
def tb115 : Nat → Option TEnt := insT 115 te115 tb205
theorem ok115 : TbOk Tryz.prog tb115 := TbOk.ins ok205 (fun_ok ok205 layOk mixed true _ ti115 to115 [] noPl noIv Tryz.func115 rfl Tryz.results115 Tryz.ntmps115 (by kernel_rfl) (by kernel_rfl) Tryz.call115 F115 fun x _ h => (r115 x).trans h)
abbrev ti122 : SPat := ⟨[(0, .s)], []⟩
abbrev to122 : SPat := ⟨[(2, .b)], []⟩
def F122 : List UInt8 → Option (Bool) := fun s =>
 bindO (F115 s) fun (y, y1) =>
 cndO (y1)
  (some (true))
  (some (decide (s = [(73 : UInt8)])))
theorem r122 (x : List UInt8) : funT T tb115 noPl 15 noIv (bodyOf Tryz.f122) ti122 to122 x = F122 x := by kernel_rfl
def te122 : TEnt := ⟨122, true, [], ti122, to122.Den, F122, resF T [.tmp 2] 15 to122 []⟩
def tb122 : Nat → Option TEnt := insT 122 te122 tb115
theorem ok122 : TbOk Tryz.prog tb122 := TbOk.ins ok115 (fun_ok ok115 layOk mixed true _ ti122 to122 [] noPl noIv Tryz.func122 rfl Tryz.results122 Tryz.ntmps122 (by kernel_rfl) (by kernel_rfl) Tryz.call122 F122 fun x _ h => (r122 x).trans h)
abbrev ti289 : SPat := ⟨[(0, .s), (1, .i .u8)], []⟩
abbrev to289 : SPat := ⟨[(4, .i .i64)], []⟩
def F289 : List UInt8 × Int → Option (Int) := fun (s, c) =>
 bindO (F322 (s, c)) fun y =>
 some (y)
theorem r289 (x : List UInt8 × Int) : funT T tb122 noPl 8 noIv (bodyOf Tryz.f289) ti289 to289 x = F289 x := by kernel_rfl
def te289 : TEnt := ⟨289, true, [], ti289, to289.Den, F289, resF T [.tmp 4] 8 to289 []⟩
def tb289 : Nat → Option TEnt := insT 289 te289 tb122
theorem ok289 : TbOk Tryz.prog tb289 := TbOk.ins ok122 (fun_ok ok122 layOk mixed true _ ti289 to289 [] noPl noIv Tryz.func289 rfl Tryz.results289 Tryz.ntmps289 (by kernel_rfl) (by kernel_rfl) Tryz.call289 F289 fun x _ h => (r289 x).trans h)
abbrev ti321 : SPat := ⟨[(0, .s), (1, .sc [41])], []⟩
abbrev to321 : SPat := ⟨[(4, .i .i64)], []⟩
abbrev ts321_1000003 : SPat := ⟨[(0, .s), (1, .sc [41]), (5, .i .i64), (16, .b)], []⟩
def tv321 : Nat → Option SPat := fun k => bif k == 1000003 then some ts321_1000003 else none
def F321 : List UInt8 → Option (Int) := fun app =>
 bindE (Y := List UInt8 × Int × Bool) (some (Sum.inl (app, (1 : Int), decide ([(41 : UInt8)] = app)))) fun (app1, v5, v16) =>
 cndO (v16)
  (some ((0 : Int)))
  (cndO (decide (v5 = (1 : Int)))
   (atO ([(41 : UInt8)]) ((0 : Nat)) fun x => bindO (F289 (app1, (x.toNat : Int))) fun y =>
   some (y))
   (cndO (decide ((app1.length : Int) ≤ v5))
    (some ((-1 : Int)))
    (none)))
theorem r321 (x : List UInt8) : funT T tb289 noPl 143 tv321 (bodyOf Tryz.f321) ti321 to321 x = F321 x := by kernel_rfl
def te321 : TEnt := ⟨321, true, [], ti321, to321.Den, F321, resF T [.tmp 4] 143 to321 []⟩
def tb321 : Nat → Option TEnt := insT 321 te321 tb289
theorem ok321 : TbOk Tryz.prog tb321 := TbOk.ins ok289 (fun_ok ok289 layOk mixed true _ ti321 to321 [] noPl tv321 Tryz.func321 rfl Tryz.results321 Tryz.ntmps321 (by kernel_rfl) (by kernel_rfl) Tryz.call321 F321 fun x _ h => (r321 x).trans h)
abbrev ti288 : SPat := ⟨[(0, .s), (1, .sc [41])], []⟩
abbrev to288 : SPat := ⟨[(4, .s), (5, .s), (6, .b)], []⟩
def tp288 : Nat → List Nat × Plan := fun id => bif id == 3 then ([0, 1, 2, 3, 4, 5, 6, 7, 8], (.br 9 [2, 1, 0] [3, 4, 5, 6, 7, 8] [] (.br 10 [9, 8, 7, 6, 5, 4, 3, 2, 1, 0] [] [] (.br 11 [10, 9, 8, 7, 6, 5, 4, 3, 2, 1, 0] [] [] .fin .fin) .fin) .fin)) else ([], .fin)
def F288 : List UInt8 → Option (List UInt8 × List UInt8 × Bool) := fun s =>
 bindO (F321 s) fun y =>
 cndO (decide ((0 : Int) ≤ y))
  (grdO (decide ((0 : Int) ≤ y) && decide (y ≤ (s.length : Int))) (grdO (decide ((0 : Int) ≤ IntKind.wrap .i64 (y + (1 : Int))) && decide (IntKind.wrap .i64 (y + (1 : Int)) ≤ (s.length : Int)) && decide ((s.length : Int) ≤ (s.length : Int))) (seqU (seqU (grdO (decide (s = s)) (some (()))) (seqU (grdO (decide (y = y)) (some (()))) (seqU (grdO (decide (IntKind.wrap .i64 (y + (1 : Int)) = IntKind.wrap .i64 (y + (1 : Int)))) (some (()))) (seqU (grdO (decide ((0 : Int) ≤ IntKind.wrap .i64 (y + (1 : Int))) && decide (IntKind.wrap .i64 (y + (1 : Int)) ≤ (s.length : Int)) && decide ((s.length : Int) ≤ (s.length : Int))) (grdO (decide (List.drop (Int.toNat (IntKind.wrap .i64 (y + (1 : Int)))) (List.take (Int.toNat (s.length : Int)) s) = List.drop (Int.toNat (IntKind.wrap .i64 (y + (1 : Int)))) (List.take (Int.toNat (s.length : Int)) s))) (some (())))) (some (())))))) (some ((List.drop (0 : Nat) (List.take y.toNat s), List.drop (Int.toNat (IntKind.wrap .i64 (y + (1 : Int)))) (List.take (Int.toNat (s.length : Int)) s), true))))))
  (some ((s, [], false)))
theorem r288 (x : List UInt8) : funT T tb321 tp288 23 noIv (bodyOf Tryz.f288) ti288 to288 x = F288 x := by kernel_rfl
def te288 : TEnt := ⟨288, true, [], ti288, to288.Den, F288, resF T [.tmp 4, .tmp 5, .tmp 6] 23 to288 []⟩
def tb288 : Nat → Option TEnt := insT 288 te288 tb321
theorem ok288 : TbOk Tryz.prog tb288 := TbOk.ins ok321 (fun_ok ok321 layOk mixed true _ ti288 to288 [] tp288 noIv Tryz.func288 rfl Tryz.results288 Tryz.ntmps288 (by kernel_rfl) (by kernel_rfl) Tryz.call288 F288 fun x _ h => (r288 x).trans h)
abbrev ti238 : SPat := ⟨[(0, .s), (1, .sc [41])], []⟩
abbrev to238 : SPat := ⟨[(4, .s), (5, .s), (6, .b)], []⟩
def F238 : List UInt8 → Option (List UInt8 × List UInt8 × Bool) := fun s =>
 bindO (F288 s) fun (y, y1, y2) =>
 some ((y, y1, y2))
theorem r238 (x : List UInt8) : funT T tb288 noPl 13 noIv (bodyOf Tryz.f238) ti238 to238 x = F238 x := by kernel_rfl
def te238 : TEnt := ⟨238, true, [], ti238, to238.Den, F238, resF T [.tmp 4, .tmp 5, .tmp 6] 13 to238 []⟩
def tb238 : Nat → Option TEnt := insT 238 te238 tb288
theorem ok238 : TbOk Tryz.prog tb238 := TbOk.ins ok288 (fun_ok ok288 layOk mixed true _ ti238 to238 [] noPl noIv Tryz.func238 rfl Tryz.results238 Tryz.ntmps238 (by kernel_rfl) (by kernel_rfl) Tryz.call238 F238 fun x _ h => (r238 x).trans h)
end Go.Proofs.YtdpapeledldifaaGreat
end
