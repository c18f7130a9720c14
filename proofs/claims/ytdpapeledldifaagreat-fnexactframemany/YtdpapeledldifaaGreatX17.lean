/- Part 18 of the proof that, for every class, FrameMany of the code and of the specification agree; no condition. -/
import Derived.Test.YtdpapeledldifaaGreatX16
set_option autoImplicit true
set_option relaxedAutoImplicit true
set_option linter.all false
noncomputable section
namespace Go.Proofs.YtdpapeledldifaaGreat
open Go Go.AM Go.TM
set_option maxRecDepth 100000
set_option maxHeartbeats 4000000
abbrev ti87 : SPat := ⟨[(0, .agg (pl plC)), (1, .agg (pl plM))], []⟩
abbrev to87 : SPat := ⟨[(4, .b)], []⟩
abbrev ts87_9 : SPat := ⟨[(2, .ptr 2 0), (3, .ptr 3 0), (5, .ar 5), (56, .ar 5), (57, .i .i64), (58, .i .i64)], [.box 2 (pl plC), .box 3 (pl plM), .arr 5 tg89 true]⟩
abbrev ts87_18 : SPat := ⟨[(2, .ptr 2 0), (3, .ptr 3 0), (5, .own tg89 true), (100, .sl tg147), (101, .i .i64), (102, .i .i64)], [.box 2 (pl plC), .box 3 (pl plM)]⟩
abbrev ts87_25 : SPat := ⟨[(2, .ptr 2 0), (3, .ptr 3 0), (5, .own tg89 true), (16, .i .i64), (154, .sl tg100), (155, .i .i64), (156, .i .i64)], [.box 2 (pl plC), .box 3 (pl plM)]⟩
abbrev ts87_1000006 : SPat := ⟨[(2, .ptr 2 0), (3, .ptr 3 0), (5, .own tg89 true), (6, .b), (10, .i .i64)], [.box 2 (pl plC), .box 3 (pl plM)]⟩
abbrev ts87_1000008 : SPat := ⟨[(2, .ptr 2 0), (3, .ptr 3 0), (5, .own tg89 true)], [.box 2 (pl plC), .box 3 (pl plM)]⟩
abbrev ts87_2000000 : SPat := ⟨[(2, .ptr 2 0), (3, .ptr 3 0), (5, .own tg89 true)], [.box 2 (pl plC), .box 3 (pl plM)]⟩
abbrev ts87_2000002 : SPat := ⟨[(2, .ptr 2 0), (3, .ptr 3 0), (5, .ar 5), (56, .ar 5), (57, .i .i64), (58, .i .i64)], [.box 2 (pl plC), .box 3 (pl plM), .arr 5 tg89 true]⟩
abbrev ts87_2000003 : SPat := ⟨[(2, .ptr 2 0), (3, .ptr 3 0), (5, .own tg89 true)], [.box 2 (pl plC), .box 3 (pl plM)]⟩
abbrev ts87_2000004 : SPat := ⟨[(2, .ptr 2 0), (3, .ptr 3 0), (5, .own tg89 true), (100, .sl tg147), (101, .i .i64), (102, .i .i64)], [.box 2 (pl plC), .box 3 (pl plM)]⟩
abbrev ts87_2000005 : SPat := ⟨[], []⟩
abbrev ts87_2000006 : SPat := ⟨[(2, .ptr 2 0), (3, .ptr 3 0), (5, .own tg89 true), (16, .i .i64), (154, .sl tg100), (155, .i .i64), (156, .i .i64)], [.box 2 (pl plC), .box 3 (pl plM)]⟩
def tv87 : Nat → Option SPat := fun k => bif k == 9 then some ts87_9 else bif k == 18 then some ts87_18 else bif k == 25 then some ts87_25 else bif k == 1000006 then some ts87_1000006 else bif k == 1000008 then some ts87_1000008 else bif k == 2000000 then some ts87_2000000 else bif k == 2000002 then some ts87_2000002 else bif k == 2000003 then some ts87_2000003 else bif k == 2000004 then some ts87_2000004 else bif k == 2000005 then some ts87_2000005 else bif k == 2000006 then some ts87_2000006 else none
def F87 : (Cls) × Mth → Option (Bool) := fun ((app0, app1, app2, app3, app4, app5, app6), v10, v11, v12, v13, v14, v15, v16, v17) =>
 bindO (F31 v15) fun (y, y1) =>
 bindO (F111 ((app0, app1, app2, app3, app4, app5, app6), v12)) fun y2 =>
 bindO (F170 y2) fun (y3, y4, y5) =>
 bindE (Y := List (Int × Int × Int) × Bool × Int × (Cls) × Mth) (cndO (decide (andI IntKind.i64 v10 (1 : Int) = (0 : Int)))
   (some (Sum.inl (y, y1, IntKind.wrap .i64 ((y3.length : Int) + (1 : Int)), (app0, app1, app2, app3, app4, app5, app6), v10, v11, v12, v13, v14, v15, v16, v17)))
   (some (Sum.inl (y, y1, (y3.length : Int), (app0, app1, app2, app3, app4, app5, app6), v10, v11, v12, v13, v14, v15, v16, v17)))) fun (v5, v6, v101, (o0, o1, o2, o3, o4, o5, o6), o01, o11, o21, o31, o41, o51, o61, o7) =>
 bindE (Y := List (Int × Int × Int) × (Cls) × Mth) (cndO (!v6)
   (some (Sum.inr false))
   (cndO (decide ((8 : Int) < o31))
    (some (Sum.inr false))
    (bindO (F89 (o41, v101, (8 : Int))) fun y6 =>
    cndO (!y6)
     (some (Sum.inr false))
     (some (Sum.inl (v5, (o0, o1, o2, o3, o4, o5, o6), o01, o11, o21, o31, o41, o51, o61, o7)))))) fun (v51, (o02, o12, o22, o32, o42, o52, o62), o03, o13, o23, o33, o43, o53, o63, o71) =>
 bindE (Y := List (Int × Int × Int) × (Cls) × Mth) (whileO (fun (v57, v58, (o04, o14, o24, o34, o44, o54, o64), (o05, o15, o25, o35, o45, o55, o65, o72), l5) =>
   cndO (decide (v58 < v57))
    (grdO (decide ((0 : Int) ≤ v58) && decide (v58 < (l5.length : Int))) (atO (l5) v58.toNat fun x => bindO (F171 (x.2.1)) fun y6 =>
    bindE (Y := Int × Int × (Cls) × (Mth) × List (Int × Int × Int)) (bindO (F89 (x.2.1, (3 : Int), (6 : Int))) fun y7 =>
     cndO (y7)
      (cndO (decide (o45 ≤ x.2.2))
       (some (Sum.inr (Sum.inr (Sum.inr false))))
       (bindO (F172 (x.2.1)) fun y8 =>
       cndO (y8)
        (bindO (F173 (l5, x.2.2)) fun y9 =>
        cndO (decide (y9 < (0 : Int)))
         (some (Sum.inr (Sum.inr (Sum.inr false))))
         (cndO (!decide (y6 = (0 : Int)))
          (bindO (F124 (o04, x.2.2)) fun (y10, y11, y12, y13) =>
          cndO (!decide (y10 = y6))
           (some (Sum.inr (Sum.inr (Sum.inr false))))
           (some (Sum.inl (v57, v58, (o04, o14, o24, o34, o44, o54, o64), (o05, o15, o25, o35, o45, o55, o65, o72), l5))))
          (some (Sum.inl (v57, v58, (o04, o14, o24, o34, o44, o54, o64), (o05, o15, o25, o35, o45, o55, o65, o72), l5)))))
        (cndO (!decide (y6 = (0 : Int)))
         (bindO (F124 (o04, x.2.2)) fun (y9, y10, y11, y12) =>
         cndO (!decide (y9 = y6))
          (some (Sum.inr (Sum.inr (Sum.inr false))))
          (some (Sum.inl (v57, v58, (o04, o14, o24, o34, o44, o54, o64), (o05, o15, o25, o35, o45, o55, o65, o72), l5))))
         (some (Sum.inl (v57, v58, (o04, o14, o24, o34, o44, o54, o64), (o05, o15, o25, o35, o45, o55, o65, o72), l5))))))
      (bindO (F172 (x.2.1)) fun y8 =>
      cndO (y8)
       (bindO (F173 (l5, x.2.2)) fun y9 =>
       cndO (decide (y9 < (0 : Int)))
        (some (Sum.inr (Sum.inr (Sum.inr false))))
        (cndO (!decide (y6 = (0 : Int)))
         (bindO (F124 (o04, x.2.2)) fun (y10, y11, y12, y13) =>
         cndO (!decide (y10 = y6))
          (some (Sum.inr (Sum.inr (Sum.inr false))))
          (some (Sum.inl (v57, v58, (o04, o14, o24, o34, o44, o54, o64), (o05, o15, o25, o35, o45, o55, o65, o72), l5))))
         (some (Sum.inl (v57, v58, (o04, o14, o24, o34, o44, o54, o64), (o05, o15, o25, o35, o45, o55, o65, o72), l5)))))
       (cndO (!decide (y6 = (0 : Int)))
        (bindO (F124 (o04, x.2.2)) fun (y9, y10, y11, y12) =>
        cndO (!decide (y9 = y6))
         (some (Sum.inr (Sum.inr (Sum.inr false))))
         (some (Sum.inl (v57, v58, (o04, o14, o24, o34, o44, o54, o64), (o05, o15, o25, o35, o45, o55, o65, o72), l5))))
        (some (Sum.inl (v57, v58, (o04, o14, o24, o34, o44, o54, o64), (o05, o15, o25, o35, o45, o55, o65, o72), l5)))))) fun (v571, v581, (o06, o16, o26, o36, o46, o56, o66), (o07, o17, o27, o37, o47, o57, o67, o73), l51) =>
    some (Sum.inl (v571, IntKind.wrap .i64 (v581 + (1 : Int)), (o06, o16, o26, o36, o46, o56, o66), (o07, o17, o27, o37, o47, o57, o67, o73), l51))))
    (some (Sum.inr (Sum.inl (l5, (o04, o14, o24, o34, o44, o54, o64), o05, o15, o25, o35, o45, o55, o65, o72))))) (((v51.length : Int), (0 : Int), (o02, o12, o22, o32, o42, o52, o62), (o03, o13, o23, o33, o43, o53, o63, o71), v51))) fun (v52, (o04, o14, o24, o34, o44, o54, o64), o05, o15, o25, o35, o45, o55, o65, o72) =>
 bindE (Y := List (Int × Int × Int) × (Cls) × Mth) (whileO (fun (v53, v100, v1011, v102, (o06, o16, o26, o36, o46, o56, o66), o07, o17, o27, o37, o47, o57, o67, o73) =>
   cndO (decide (v102 < v1011))
    (bindE (Y := List (Int × Int × Int) × List (Int × Int × Int × Int) × Int × Int × (Cls) × Mth) (grdO (decide ((0 : Int) ≤ v102)) (atO (v100) v102.toNat fun x => cndO (decide (x.2.1 ≤ x.1))
      (some (Sum.inr (Sum.inr (Sum.inr false))))
      (bindO (F173 (v53, x.1)) fun y6 =>
      cndO (decide (y6 < (0 : Int)))
       (some (Sum.inr (Sum.inr (Sum.inr false))))
       (bindO (F173 (v53, x.2.2.1)) fun y7 =>
       cndO (decide (y7 < (0 : Int)))
        (some (Sum.inr (Sum.inr (Sum.inr false))))
        (bindO (F173 (v53, x.2.1)) fun y8 =>
        cndO (decide (y8 < (0 : Int)))
         (cndO (!decide (x.2.1 = (o57.length : Int)))
          (some (Sum.inr (Sum.inr (Sum.inr false))))
          (cndO (!decide (x.2.2.2 = (0 : Int)))
           (bindO (F162 ((o06, o16, o26, o36, o46, o56, o66), x.2.2.2)) fun y9 =>
           cndO (!y9)
            (some (Sum.inr (Sum.inr (Sum.inr false))))
            (some (Sum.inl (v53, v100, v1011, v102, (o06, o16, o26, o36, o46, o56, o66), o07, o17, o27, o37, o47, o57, o67, o73))))
           (some (Sum.inl (v53, v100, v1011, v102, (o06, o16, o26, o36, o46, o56, o66), o07, o17, o27, o37, o47, o57, o67, o73)))))
         (cndO (!decide (x.2.2.2 = (0 : Int)))
          (bindO (F162 ((o06, o16, o26, o36, o46, o56, o66), x.2.2.2)) fun y9 =>
          cndO (!y9)
           (some (Sum.inr (Sum.inr (Sum.inr false))))
           (some (Sum.inl (v53, v100, v1011, v102, (o06, o16, o26, o36, o46, o56, o66), o07, o17, o27, o37, o47, o57, o67, o73))))
          (some (Sum.inl (v53, v100, v1011, v102, (o06, o16, o26, o36, o46, o56, o66), o07, o17, o27, o37, o47, o57, o67, o73))))))))) fun (v54, v1001, v1012, v1021, (o08, o18, o28, o38, o48, o58, o68), o09, o19, o29, o39, o49, o59, o69, o74) =>
    some (Sum.inl (v54, v1001, v1012, IntKind.wrap .i64 (v1021 + (1 : Int)), (o08, o18, o28, o38, o48, o58, o68), o09, o19, o29, o39, o49, o59, o69, o74)))
    (some (Sum.inr (Sum.inl (v53, (o06, o16, o26, o36, o46, o56, o66), o07, o17, o27, o37, o47, o57, o67, o73))))) ((v52, o65, (o65.length : Int), (0 : Int), (o04, o14, o24, o34, o44, o54, o64), o05, o15, o25, o35, o45, o55, o65, o72))) fun (v53, (o06, o16, o26, o36, o46, o56, o66), o07, o17, o27, o37, o47, o57, o67, o73) =>
 bindE (whileO (fun (v54, v161, v154, v155, v156, (o08, o18, o28, o38, o48, o58, o68), o09, o19, o29, o39, o49, o59, o69, o74) =>
   cndO (decide (v156 < v155))
    (bindE (Y := List (Int × Int × Int) × Int × List Frm × Int × Int × (Cls) × Mth) (grdO (decide ((0 : Int) ≤ v156)) (atO (v154) v156.toNat fun x => bindO (F173 (v54, x.1)) fun y6 =>
     cndO (decide (y6 < (0 : Int)))
      (some (Sum.inr (Sum.inr (Sum.inr false))))
      (cndO (decide (x.1 ≤ v161))
       (some (Sum.inr (Sum.inr (Sum.inr false))))
       (cndO (!decide ((x.2.1.length : Int) = o49))
        (some (Sum.inr (Sum.inr (Sum.inr false))))
        (cndO (decide (o39 < (x.2.2.length : Int)))
         (some (Sum.inr (Sum.inr (Sum.inr false))))
         (bindO (F174 ((o08, o18, o28, o38, o48, o58, o68), x.2.1)) fun y7 =>
         cndO (!y7)
          (some (Sum.inr (Sum.inr (Sum.inr false))))
          (bindO (F174 ((o08, o18, o28, o38, o48, o58, o68), x.2.2)) fun y8 =>
          cndO (!y8)
           (some (Sum.inr (Sum.inr (Sum.inr false))))
           (some (Sum.inl (v54, x.1, v154, v155, v156, (o08, o18, o28, o38, o48, o58, o68), o09, o19, o29, o39, o49, o59, o69, o74)))))))))) fun (v55, v162, v1541, v1551, v1561, (o010, o110, o210, o310, o410, o510, o610), o011, o111, o211, o311, o411, o511, o611, o75) =>
    some (Sum.inl (v55, v162, v1541, v1551, IntKind.wrap .i64 (v1561 + (1 : Int)), (o010, o110, o210, o310, o410, o510, o610), o011, o111, o211, o311, o411, o511, o611, o75)))
    (some (Sum.inr (Sum.inl ())))) ((v53, (-1 : Int), o73, (o73.length : Int), (0 : Int), (o06, o16, o26, o36, o46, o56, o66), o07, o17, o27, o37, o47, o57, o67, o73))) fun _ =>
 some (true)
theorem r87 (x : (Cls) × Mth) : funT T tb174 noPl 204 tv87 (bodyOf Tryz.f87) ti87 to87 x = F87 x := by kernel_rfl
def te87 : TEnt := ⟨87, true, [], ti87, to87.Den, F87, resF T [.tmp 4] 204 to87 []⟩
def tb87 : Nat → Option TEnt := insT 87 te87 tb174
theorem ok87 : TbOk Tryz.prog tb87 := TbOk.ins ok174 (fun_ok ok174 layOk mixed true _ ti87 to87 [] noPl tv87 Tryz.func87 rfl Tryz.results87 Tryz.ntmps87 (by kernel_rfl) (by kernel_rfl) Tryz.call87 F87 fun x _ h => (r87 x).trans h)
abbrev ti29 : SPat := ⟨[(0, .agg (pl plC))], []⟩
abbrev to29 : SPat := ⟨[(2, .i .i64)], []⟩
abbrev ts29_8 : SPat := ⟨[(1, .ptr 1 0), (22, .i .i64), (23, .i .i64)], [.box 1 (pl plC)]⟩
abbrev ts29_14 : SPat := ⟨[(1, .ptr 1 0), (33, .i .i64), (34, .i .i64)], [.box 1 (pl plC)]⟩
abbrev ts29_20 : SPat := ⟨[(1, .ptr 1 0), (43, .sl tg53), (44, .i .i64), (45, .i .i64)], [.box 1 (pl plC)]⟩
abbrev ts29_2000001 : SPat := ⟨[(1, .ptr 1 0)], [.box 1 (pl plC)]⟩
abbrev ts29_2000003 : SPat := ⟨[(1, .ptr 1 0)], [.box 1 (pl plC)]⟩
abbrev ts29_2000005 : SPat := ⟨[], []⟩
abbrev ts29_2000006 : SPat := ⟨[(1, .ptr 1 0), (43, .sl tg53), (44, .i .i64), (45, .i .i64)], [.box 1 (pl plC)]⟩
def tv29 : Nat → Option SPat := fun k => bif k == 8 then some ts29_8 else bif k == 14 then some ts29_14 else bif k == 20 then some ts29_20 else bif k == 2000001 then some ts29_2000001 else bif k == 2000003 then some ts29_2000003 else bif k == 2000005 then some ts29_2000005 else bif k == 2000006 then some ts29_2000006 else none
def F29 : Cls → Option (Int) := fun (c0, c1, c2, c3, c4, c5, c6) =>
 bindO (F20 (c0, c1, c2, c3, c4, c5, c6)) fun y =>
 cndO (decide (y = []))
  (some ((1 : Int)))
  (bindO (F14 c0) fun y1 =>
  cndO (!decide (y1 = (0 : Int)))
   (some ((2 : Int)))
   (bindO (F83 (c0, c1, c2, c3, c4, c5, c6)) fun y2 =>
   cndO (!y2)
    (some ((3 : Int)))
    (bindE (Y := Cls) (whileO (fun (v22, v23, o0, o1, o2, o3, o4, o5, o6) =>
      cndO (decide (v23 < v22))
       (bindO (F84 ((o0, o1, o2, o3, o4, o5, o6), v23)) fun y3 =>
       cndO (!y3)
        (some (Sum.inr (Sum.inr (4 : Int))))
        (some (Sum.inl (v22, IntKind.wrap .i64 (v23 + (1 : Int)), o0, o1, o2, o3, o4, o5, o6))))
       (some (Sum.inr (Sum.inl (o0, o1, o2, o3, o4, o5, o6))))) (((c5.length : Int), (0 : Int), c0, c1, c2, c3, c4, c5, c6))) fun (o0, o1, o2, o3, o4, o5, o6) =>
    bindE (Y := Cls) (whileO (fun (v33, v34, o01, o11, o21, o31, o41, o51, o61) =>
      cndO (decide (v34 < v33))
       (bindO (F85 ((o01, o11, o21, o31, o41, o51, o61), v34)) fun y3 =>
       cndO (!y3)
        (some (Sum.inr (Sum.inr (5 : Int))))
        (some (Sum.inl (v33, IntKind.wrap .i64 (v34 + (1 : Int)), o01, o11, o21, o31, o41, o51, o61))))
       (some (Sum.inr (Sum.inl (o01, o11, o21, o31, o41, o51, o61))))) (((o6.length : Int), (0 : Int), o0, o1, o2, o3, o4, o5, o6))) fun (o01, o11, o21, o31, o41, o51, o61) =>
    bindE (whileO (fun (v43, v44, v45, o02, o12, o22, o32, o42, o52, o62) =>
      cndO (decide (v45 < v44))
       (bindE (Y := List Mth × Int × Int × Cls) (grdO (decide ((0 : Int) ≤ v45)) (atO (v43) v45.toNat fun x => bindO (F86 (x.1)) fun y3 =>
        cndO (!y3)
         (bindO (F87 ((o02, o12, o22, o32, o42, o52, o62), x.1, x.2.1, x.2.2.1, x.2.2.2.1, x.2.2.2.2.1, x.2.2.2.2.2.1, x.2.2.2.2.2.2.1, x.2.2.2.2.2.2.2)) fun y4 =>
         cndO (!y4)
          (some (Sum.inr (Sum.inr (Sum.inr (6 : Int)))))
          (some (Sum.inl (v43, v44, v45, o02, o12, o22, o32, o42, o52, o62))))
         (some (Sum.inl (v43, v44, v45, o02, o12, o22, o32, o42, o52, o62))))) fun (v431, v441, v451, o03, o13, o23, o33, o43, o53, o63) =>
       some (Sum.inl (v431, v441, IntKind.wrap .i64 (v451 + (1 : Int)), o03, o13, o23, o33, o43, o53, o63)))
       (some (Sum.inr (Sum.inl ())))) ((o61, (o61.length : Int), (0 : Int), o01, o11, o21, o31, o41, o51, o61))) fun _ =>
    some ((0 : Int)))))
theorem r29 (x : Cls) : funT T tb87 noPl 60 tv29 (bodyOf Tryz.f29) ti29 to29 x = F29 x := by kernel_rfl
def te29 : TEnt := ⟨29, true, [], ti29, to29.Den, F29, resF T [.tmp 2] 60 to29 []⟩
def tb29 : Nat → Option TEnt := insT 29 te29 tb87
theorem ok29 : TbOk Tryz.prog tb29 := TbOk.ins ok87 (fun_ok ok87 layOk mixed true _ ti29 to29 [] noPl tv29 Tryz.func29 rfl Tryz.results29 Tryz.ntmps29 (by kernel_rfl) (by kernel_rfl) Tryz.call29 F29 fun x _ h => (r29 x).trans h)
abbrev ti26 : SPat := ⟨[(0, .agg (pl plC))], []⟩
abbrev to26 : SPat := ⟨[(2, .i .i64)], []⟩
abbrev ts26_5 : SPat := ⟨[(3, .i .i64), (12, .sl tg53), (13, .i .i64), (14, .i .i64)], []⟩
abbrev ts26_8 : SPat := ⟨[(3, .i .i64), (12, .sl tg53), (13, .i .i64), (14, .i .i64), (19, .sl tg100), (20, .i .i64), (21, .i .i64)], []⟩
abbrev ts26_2000000 : SPat := ⟨[(3, .i .i64)], []⟩
abbrev ts26_2000001 : SPat := ⟨[(3, .i .i64), (12, .sl tg53), (13, .i .i64), (14, .i .i64)], []⟩
abbrev ts26_2000002 : SPat := ⟨[(3, .i .i64), (12, .sl tg53), (13, .i .i64), (14, .i .i64)], []⟩
def tv26 : Nat → Option SPat := fun k => bif k == 5 then some ts26_5 else bif k == 8 then some ts26_8 else bif k == 2000000 then some ts26_2000000 else bif k == 2000001 then some ts26_2000001 else bif k == 2000002 then some ts26_2000002 else none
def F26 : Cls → Option (Int) := fun (c0, c1, c2, c3, c4, c5, c6) =>
 bindO (F29 (c0, c1, c2, c3, c4, c5, c6)) fun y =>
 cndO (!decide (y = (0 : Int)))
  (some ((0 : Int)))
  (bindE (whileO (fun (n, v12, v13, v14) =>
    cndO (decide (v14 < v13))
     (bindE (Y := Int × List Mth × Int × Int) (grdO (decide ((0 : Int) ≤ v14)) (atO (v12) v14.toNat fun x => bindE (Y := Int × List Mth × Int × Int) (whileO (fun (n1, v121, v131, v141, v19, v20, v21) =>
        cndO (decide (v21 < v20))
         (grdO (decide ((0 : Int) ≤ v21)) (atO (v19) v21.toNat fun x1 => some (Sum.inl (IntKind.wrap .i64 (n1 + IntKind.wrap .i64 ((x1.2.1.length : Int) + (x1.2.2.length : Int))), v121, v131, v141, v19, v20, IntKind.wrap .i64 (v21 + (1 : Int))))))
         (some (Sum.inr (Sum.inl (n1, v121, v131, v141))))) ((n, v12, v13, v14, x.2.2.2.2.2.2.2, (x.2.2.2.2.2.2.2.length : Int), (0 : Int)))) fun (n1, v121, v131, v141) =>
      some (Sum.inl (n1, v121, v131, v141)))) fun (n1, v121, v131, v141) =>
     some (Sum.inl (n1, v121, v131, IntKind.wrap .i64 (v141 + (1 : Int)))))
     (some (Sum.inr (Sum.inl n)))) (((0 : Int), c6, (c6.length : Int), (0 : Int)))) fun n =>
  some (n))
theorem r26 (x : Cls) : funT T tb29 noPl 37 tv26 (bodyOf Tryz.f26) ti26 to26 x = F26 x := by kernel_rfl
def te26 : TEnt := ⟨26, true, [], ti26, to26.Den, F26, resF T [.tmp 2] 37 to26 []⟩
def tb26 : Nat → Option TEnt := insT 26 te26 tb29
theorem ok26 : TbOk Tryz.prog tb26 := TbOk.ins ok29 (fun_ok ok29 layOk mixed true _ ti26 to26 [] noPl tv26 Tryz.func26 rfl Tryz.results26 Tryz.ntmps26 (by kernel_rfl) (by kernel_rfl) Tryz.call26 F26 fun x _ h => (r26 x).trans h)
abbrev ti159 : SPat := ⟨[(0, .agg (pl [.i .i64, .s, .i .i64, .i .i64])), (1, .agg (pl [.i .i64, .s, .i .i64, .i .i64]))], []⟩
abbrev to159 : SPat := ⟨[(4, .b)], []⟩
def F159 : (Cst) × Cst → Option (Bool) := fun ((a0, a1, a2, a3), b0, b1, b2, b3) =>
 cndO (!decide (a0 = b0))
  (some (false))
  (cndO (!decide (a1 = b1))
   (some (false))
   (cndO (!decide (a2 = b2))
    (some (false))
    (cndO (!decide (a3 = b3))
     (some (false))
     (some (true)))))
theorem r159 (x : (Cst) × Cst) : funT T tb26 noPl 25 noIv (bodyOf Tryz.f159) ti159 to159 x = F159 x := by kernel_rfl
def te159 : TEnt := ⟨159, true, [], ti159, to159.Den, F159, resF T [.tmp 4] 25 to159 []⟩
def tb159 : Nat → Option TEnt := insT 159 te159 tb26
theorem ok159 : TbOk Tryz.prog tb159 := TbOk.ins ok26 (fun_ok ok26 layOk mixed true _ ti159 to159 [] noPl noIv Tryz.func159 rfl Tryz.results159 Tryz.ntmps159 (by kernel_rfl) (by kernel_rfl) Tryz.call159 F159 fun x _ h => (r159 x).trans h)
abbrev ti79 : SPat := ⟨[(0, .sl tg27), (1, .sl tg27)], []⟩
abbrev to79 : SPat := ⟨[(4, .b)], []⟩
abbrev ts79_4 : SPat := ⟨[(0, .sl tg27), (1, .sl tg27), (5, .i .i64)], []⟩
abbrev ts79_2000000 : SPat := ⟨[], []⟩
def tv79 : Nat → Option SPat := fun k => bif k == 4 then some ts79_4 else bif k == 2000000 then some ts79_2000000 else none
def tp79 : Nat → List Nat × Plan := fun id => bif id == 6 then ([0, 1, 2, 3, 4, 5, 6, 7], (.br 8 [7, 6, 5, 4, 3, 2, 1, 0] [] [9] .fin .fin)) else ([], .fin)
def F79 : List Cst × List Cst → Option (Bool) := fun (a, b) =>
 cndO (!decide ((a.length : Int) = (b.length : Int)))
  (some (false))
  (bindE (whileO (fun (a1, b1, i) =>
    cndO (decide (i < (a1.length : Int)))
     (grdO (decide ((0 : Int) ≤ i)) (atO (a1) i.toNat fun x => grdO (decide ((0 : Int) ≤ i)) (atO (b1) i.toNat fun x1 => bindO (F159 ((x.1, x.2.1, x.2.2.1, x.2.2.2), x1.1, x1.2.1, x1.2.2.1, x1.2.2.2)) fun y =>
     cndO (!y)
      (some (Sum.inr (Sum.inr false)))
      (some (Sum.inl (a1, b1, IntKind.wrap .i64 (i + (1 : Int))))))))
     (some (Sum.inr (Sum.inl ())))) ((a, b, (0 : Int)))) fun _ =>
  some (true))
theorem r79 (x : List Cst × List Cst) : funT T tb159 tp79 27 tv79 (bodyOf Tryz.f79) ti79 to79 x = F79 x := by kernel_rfl
def te79 : TEnt := ⟨79, true, [], ti79, to79.Den, F79, resF T [.tmp 4] 27 to79 []⟩
def tb79 : Nat → Option TEnt := insT 79 te79 tb159
theorem ok79 : TbOk Tryz.prog tb79 := TbOk.ins ok159 (fun_ok ok159 layOk mixed true _ ti79 to79 [] tp79 tv79 Tryz.func79 rfl Tryz.results79 Tryz.ntmps79 (by kernel_rfl) (by kernel_rfl) Tryz.call79 F79 fun x _ h => (r79 x).trans h)
abbrev ti80 : SPat := ⟨[(0, .sl (.int .i64)), (1, .sl (.int .i64))], []⟩
abbrev to80 : SPat := ⟨[(4, .b)], []⟩
abbrev ts80_4 : SPat := ⟨[(0, .sl (.int .i64)), (1, .sl (.int .i64)), (5, .i .i64)], []⟩
abbrev ts80_2000000 : SPat := ⟨[], []⟩
def tv80 : Nat → Option SPat := fun k => bif k == 4 then some ts80_4 else bif k == 2000000 then some ts80_2000000 else none
def tp80 : Nat → List Nat × Plan := fun id => bif id == 6 then ([0, 1, 2, 3, 4, 5, 6, 7, 8], .fin) else ([], .fin)
def F80 : List Int × List Int → Option (Bool) := fun (a, b) =>
 cndO (!decide ((a.length : Int) = (b.length : Int)))
  (some (false))
  (bindE (whileO (fun (a1, b1, i) =>
    cndO (decide (i < (a1.length : Int)))
     (grdO (decide ((0 : Int) ≤ i)) (atO (a1) i.toNat fun x => grdO (decide ((0 : Int) ≤ i)) (atO (b1) i.toNat fun x1 => cndO (!decide (x = x1))
      (some (Sum.inr (Sum.inr false)))
      (some (Sum.inl (a1, b1, IntKind.wrap .i64 (i + (1 : Int))))))))
     (some (Sum.inr (Sum.inl ())))) ((a, b, (0 : Int)))) fun _ =>
  some (true))
theorem r80 (x : List Int × List Int) : funT T tb79 tp80 26 tv80 (bodyOf Tryz.f80) ti80 to80 x = F80 x := by kernel_rfl
def te80 : TEnt := ⟨80, true, [], ti80, to80.Den, F80, resF T [.tmp 4] 26 to80 []⟩
def tb80 : Nat → Option TEnt := insT 80 te80 tb79
theorem ok80 : TbOk Tryz.prog tb80 := TbOk.ins ok79 (fun_ok ok79 layOk mixed true _ ti80 to80 [] tp80 tv80 Tryz.func80 rfl Tryz.results80 Tryz.ntmps80 (by kernel_rfl) (by kernel_rfl) Tryz.call80 F80 fun x _ h => (r80 x).trans h)
abbrev ti160 : SPat := ⟨[(0, .agg (pl [.i .i64, .i .i64, .i .i64])), (1, .agg (pl [.i .i64, .i .i64, .i .i64]))], []⟩
abbrev to160 : SPat := ⟨[(4, .b)], []⟩
def F160 : (Int × Int × Int) × Int × Int × Int → Option (Bool) := fun ((a0, a1, a2), b0, b1, b2) =>
 cndO (!decide (a0 = b0))
  (some (false))
  (cndO (!decide (a1 = b1))
   (some (false))
   (cndO (!decide (a2 = b2))
    (some (false))
    (some (true))))
theorem r160 (x : (Int × Int × Int) × Int × Int × Int) : funT T tb80 noPl 20 noIv (bodyOf Tryz.f160) ti160 to160 x = F160 x := by kernel_rfl
def te160 : TEnt := ⟨160, true, [], ti160, to160.Den, F160, resF T [.tmp 4] 20 to160 []⟩
def tb160 : Nat → Option TEnt := insT 160 te160 tb80
theorem ok160 : TbOk Tryz.prog tb160 := TbOk.ins ok80 (fun_ok ok80 layOk mixed true _ ti160 to160 [] noPl noIv Tryz.func160 rfl Tryz.results160 Tryz.ntmps160 (by kernel_rfl) (by kernel_rfl) Tryz.call160 F160 fun x _ h => (r160 x).trans h)
abbrev ti81 : SPat := ⟨[(0, .sl tg89), (1, .sl tg89)], []⟩
abbrev to81 : SPat := ⟨[(4, .b)], []⟩
abbrev ts81_4 : SPat := ⟨[(0, .sl tg89), (1, .sl tg89), (5, .i .i64)], []⟩
abbrev ts81_2000000 : SPat := ⟨[], []⟩
def tv81 : Nat → Option SPat := fun k => bif k == 4 then some ts81_4 else bif k == 2000000 then some ts81_2000000 else none
def tp81 : Nat → List Nat × Plan := fun id => bif id == 6 then ([0, 1, 2, 3, 4, 5, 6, 7], (.br 8 [7, 6, 5, 4, 3, 2, 1, 0] [] [9] .fin .fin)) else ([], .fin)
def F81 : List (Int × Int × Int) × List (Int × Int × Int) → Option (Bool) := fun (a, b) =>
 cndO (!decide ((a.length : Int) = (b.length : Int)))
  (some (false))
  (bindE (whileO (fun (a1, b1, i) =>
    cndO (decide (i < (a1.length : Int)))
     (grdO (decide ((0 : Int) ≤ i)) (atO (a1) i.toNat fun x => grdO (decide ((0 : Int) ≤ i)) (atO (b1) i.toNat fun x1 => bindO (F160 ((x.1, x.2.1, x.2.2), x1.1, x1.2.1, x1.2.2)) fun y =>
     cndO (!y)
      (some (Sum.inr (Sum.inr false)))
      (some (Sum.inl (a1, b1, IntKind.wrap .i64 (i + (1 : Int))))))))
     (some (Sum.inr (Sum.inl ())))) ((a, b, (0 : Int)))) fun _ =>
  some (true))
theorem r81 (x : List (Int × Int × Int) × List (Int × Int × Int)) : funT T tb160 tp81 27 tv81 (bodyOf Tryz.f81) ti81 to81 x = F81 x := by kernel_rfl
def te81 : TEnt := ⟨81, true, [], ti81, to81.Den, F81, resF T [.tmp 4] 27 to81 []⟩
def tb81 : Nat → Option TEnt := insT 81 te81 tb160
theorem ok81 : TbOk Tryz.prog tb81 := TbOk.ins ok160 (fun_ok ok160 layOk mixed true _ ti81 to81 [] tp81 tv81 Tryz.func81 rfl Tryz.results81 Tryz.ntmps81 (by kernel_rfl) (by kernel_rfl) Tryz.call81 F81 fun x _ h => (r81 x).trans h)
abbrev ti286 : SPat := ⟨[(0, .agg (pl [.i .i64, .i .i64, .i .i64, .i .i64])), (1, .agg (pl [.i .i64, .i .i64, .i .i64, .i .i64]))], []⟩
abbrev to286 : SPat := ⟨[(4, .b)], []⟩
def F286 : (Int × Int × Int × Int) × Int × Int × Int × Int → Option (Bool) := fun ((a0, a1, a2, a3), b0, b1, b2, b3) =>
 cndO (!decide (a0 = b0))
  (some (false))
  (cndO (!decide (a1 = b1))
   (some (false))
   (cndO (!decide (a2 = b2))
    (some (false))
    (cndO (!decide (a3 = b3))
     (some (false))
     (some (true)))))
theorem r286 (x : (Int × Int × Int × Int) × Int × Int × Int × Int) : funT T tb81 noPl 25 noIv (bodyOf Tryz.f286) ti286 to286 x = F286 x := by kernel_rfl
def te286 : TEnt := ⟨286, true, [], ti286, to286.Den, F286, resF T [.tmp 4] 25 to286 []⟩
def tb286 : Nat → Option TEnt := insT 286 te286 tb81
theorem ok286 : TbOk Tryz.prog tb286 := TbOk.ins ok81 (fun_ok ok81 layOk mixed true _ ti286 to286 [] noPl noIv Tryz.func286 rfl Tryz.results286 Tryz.ntmps286 (by kernel_rfl) (by kernel_rfl) Tryz.call286 F286 fun x _ h => (r286 x).trans h)
abbrev ti233 : SPat := ⟨[(0, .sl tg147), (1, .sl tg147)], []⟩
abbrev to233 : SPat := ⟨[(4, .b)], []⟩
abbrev ts233_4 : SPat := ⟨[(0, .sl tg147), (1, .sl tg147), (5, .i .i64)], []⟩
abbrev ts233_2000000 : SPat := ⟨[], []⟩
def tv233 : Nat → Option SPat := fun k => bif k == 4 then some ts233_4 else bif k == 2000000 then some ts233_2000000 else none
def tp233 : Nat → List Nat × Plan := fun id => bif id == 6 then ([0, 1, 2, 3, 4, 5, 6, 7], (.br 8 [7, 6, 5, 4, 3, 2, 1, 0] [] [9] .fin .fin)) else ([], .fin)
def F233 : List (Int × Int × Int × Int) × List (Int × Int × Int × Int) → Option (Bool) := fun (a, b) =>
 cndO (!decide ((a.length : Int) = (b.length : Int)))
  (some (false))
  (bindE (whileO (fun (a1, b1, i) =>
    cndO (decide (i < (a1.length : Int)))
     (grdO (decide ((0 : Int) ≤ i)) (atO (a1) i.toNat fun x => grdO (decide ((0 : Int) ≤ i)) (atO (b1) i.toNat fun x1 => bindO (F286 ((x.1, x.2.1, x.2.2.1, x.2.2.2), x1.1, x1.2.1, x1.2.2.1, x1.2.2.2)) fun y =>
     cndO (!y)
      (some (Sum.inr (Sum.inr false)))
      (some (Sum.inl (a1, b1, IntKind.wrap .i64 (i + (1 : Int))))))))
     (some (Sum.inr (Sum.inl ())))) ((a, b, (0 : Int)))) fun _ =>
  some (true))
theorem r233 (x : List (Int × Int × Int × Int) × List (Int × Int × Int × Int)) : funT T tb286 tp233 27 tv233 (bodyOf Tryz.f233) ti233 to233 x = F233 x := by kernel_rfl
def te233 : TEnt := ⟨233, true, [], ti233, to233.Den, F233, resF T [.tmp 4] 27 to233 []⟩
def tb233 : Nat → Option TEnt := insT 233 te233 tb286
theorem ok233 : TbOk Tryz.prog tb233 := TbOk.ins ok286 (fun_ok ok286 layOk mixed true _ ti233 to233 [] tp233 tv233 Tryz.func233 rfl Tryz.results233 Tryz.ntmps233 (by kernel_rfl) (by kernel_rfl) Tryz.call233 F233 fun x _ h => (r233 x).trans h)
abbrev ti329 : SPat := ⟨[(0, .agg (pl [.i .i64, .i .i64])), (1, .agg (pl [.i .i64, .i .i64]))], []⟩
abbrev to329 : SPat := ⟨[(4, .b)], []⟩
def F329 : (Int × Int) × Int × Int → Option (Bool) := fun ((a0, a1), b0, b1) =>
 cndO (!decide (a0 = b0))
  (some (false))
  (cndO (!decide (a1 = b1))
   (some (false))
   (some (true)))
theorem r329 (x : (Int × Int) × Int × Int) : funT T tb233 noPl 15 noIv (bodyOf Tryz.f329) ti329 to329 x = F329 x := by kernel_rfl
def te329 : TEnt := ⟨329, true, [], ti329, to329.Den, F329, resF T [.tmp 4] 15 to329 []⟩
def tb329 : Nat → Option TEnt := insT 329 te329 tb233
theorem ok329 : TbOk Tryz.prog tb329 := TbOk.ins ok233 (fun_ok ok233 layOk mixed true _ ti329 to329 [] noPl noIv Tryz.func329 rfl Tryz.results329 Tryz.ntmps329 (by kernel_rfl) (by kernel_rfl) Tryz.call329 F329 fun x _ h => (r329 x).trans h)
abbrev ti320 : SPat := ⟨[(0, .sl tg184), (1, .sl tg184)], []⟩
abbrev to320 : SPat := ⟨[(4, .b)], []⟩
abbrev ts320_4 : SPat := ⟨[(0, .sl tg184), (1, .sl tg184), (5, .i .i64)], []⟩
abbrev ts320_2000000 : SPat := ⟨[], []⟩
def tv320 : Nat → Option SPat := fun k => bif k == 4 then some ts320_4 else bif k == 2000000 then some ts320_2000000 else none
def tp320 : Nat → List Nat × Plan := fun id => bif id == 6 then ([0, 1, 2, 3, 4, 5, 6, 7], (.br 8 [7, 6, 5, 4, 3, 2, 1, 0] [] [9] .fin .fin)) else ([], .fin)
def F320 : List (Int × Int) × List (Int × Int) → Option (Bool) := fun (a, b) =>
 cndO (!decide ((a.length : Int) = (b.length : Int)))
  (some (false))
  (bindE (whileO (fun (a1, b1, i) =>
    cndO (decide (i < (a1.length : Int)))
     (grdO (decide ((0 : Int) ≤ i)) (atO (a1) i.toNat fun x => grdO (decide ((0 : Int) ≤ i)) (atO (b1) i.toNat fun x1 => bindO (F329 ((x.1, x.2), x1.1, x1.2)) fun y =>
     cndO (!y)
      (some (Sum.inr (Sum.inr false)))
      (some (Sum.inl (a1, b1, IntKind.wrap .i64 (i + (1 : Int))))))))
     (some (Sum.inr (Sum.inl ())))) ((a, b, (0 : Int)))) fun _ =>
  some (true))
theorem r320 (x : List (Int × Int) × List (Int × Int)) : funT T tb329 tp320 27 tv320 (bodyOf Tryz.f320) ti320 to320 x = F320 x := by kernel_rfl
def te320 : TEnt := ⟨320, true, [], ti320, to320.Den, F320, resF T [.tmp 4] 27 to320 []⟩
def tb320 : Nat → Option TEnt := insT 320 te320 tb329
theorem ok320 : TbOk Tryz.prog tb320 := TbOk.ins ok329 (fun_ok ok329 layOk mixed true _ ti320 to320 [] tp320 tv320 Tryz.func320 rfl Tryz.results320 Tryz.ntmps320 (by kernel_rfl) (by kernel_rfl) Tryz.call320 F320 fun x _ h => (r320 x).trans h)
abbrev ti287 : SPat := ⟨[(0, .agg (pl [.i .i64, .sl tg184, .sl tg184])), (1, .agg (pl [.i .i64, .sl tg184, .sl tg184]))], []⟩
abbrev to287 : SPat := ⟨[(4, .b)], []⟩
def F287 : (Frm) × Frm → Option (Bool) := fun ((a0, a1, a2), b0, b1, b2) =>
 cndO (!decide (a0 = b0))
  (some (false))
  (bindO (F320 (a1, b1)) fun y =>
  cndO (!y)
   (some (false))
   (bindO (F320 (a2, b2)) fun y1 =>
   cndO (!y1)
    (some (false))
    (some (true))))
theorem r287 (x : (Frm) × Frm) : funT T tb320 noPl 22 noIv (bodyOf Tryz.f287) ti287 to287 x = F287 x := by kernel_rfl
def te287 : TEnt := ⟨287, true, [], ti287, to287.Den, F287, resF T [.tmp 4] 22 to287 []⟩
def tb287 : Nat → Option TEnt := insT 287 te287 tb320
theorem ok287 : TbOk Tryz.prog tb287 := TbOk.ins ok320 (fun_ok ok320 layOk mixed true _ ti287 to287 [] noPl noIv Tryz.func287 rfl Tryz.results287 Tryz.ntmps287 (by kernel_rfl) (by kernel_rfl) Tryz.call287 F287 fun x _ h => (r287 x).trans h)
abbrev ti234 : SPat := ⟨[(0, .sl tg100), (1, .sl tg100)], []⟩
abbrev to234 : SPat := ⟨[(4, .b)], []⟩
abbrev ts234_4 : SPat := ⟨[(0, .sl tg100), (1, .sl tg100), (5, .i .i64)], []⟩
abbrev ts234_2000000 : SPat := ⟨[], []⟩
def tv234 : Nat → Option SPat := fun k => bif k == 4 then some ts234_4 else bif k == 2000000 then some ts234_2000000 else none
def tp234 : Nat → List Nat × Plan := fun id => bif id == 6 then ([0, 1, 2, 3, 4, 5, 6, 7], (.br 8 [7, 6, 5, 4, 3, 2, 1, 0] [] [9] .fin .fin)) else ([], .fin)
def F234 : List Frm × List Frm → Option (Bool) := fun (a, b) =>
 cndO (!decide ((a.length : Int) = (b.length : Int)))
  (some (false))
  (bindE (whileO (fun (a1, b1, i) =>
    cndO (decide (i < (a1.length : Int)))
     (grdO (decide ((0 : Int) ≤ i)) (atO (a1) i.toNat fun x => grdO (decide ((0 : Int) ≤ i)) (atO (b1) i.toNat fun x1 => bindO (F287 ((x.1, x.2.1, x.2.2), x1.1, x1.2.1, x1.2.2)) fun y =>
     cndO (!y)
      (some (Sum.inr (Sum.inr false)))
      (some (Sum.inl (a1, b1, IntKind.wrap .i64 (i + (1 : Int))))))))
     (some (Sum.inr (Sum.inl ())))) ((a, b, (0 : Int)))) fun _ =>
  some (true))
theorem r234 (x : List Frm × List Frm) : funT T tb287 tp234 27 tv234 (bodyOf Tryz.f234) ti234 to234 x = F234 x := by kernel_rfl
def te234 : TEnt := ⟨234, true, [], ti234, to234.Den, F234, resF T [.tmp 4] 27 to234 []⟩
def tb234 : Nat → Option TEnt := insT 234 te234 tb287
theorem ok234 : TbOk Tryz.prog tb234 := TbOk.ins ok287 (fun_ok ok287 layOk mixed true _ ti234 to234 [] tp234 tv234 Tryz.func234 rfl Tryz.results234 Tryz.ntmps234 (by kernel_rfl) (by kernel_rfl) Tryz.call234 F234 fun x _ h => (r234 x).trans h)
abbrev ti161 : SPat := ⟨[(0, .agg (pl plM)), (1, .agg (pl plM))], []⟩
abbrev to161 : SPat := ⟨[(4, .b)], []⟩
def F161 : (Mth) × Mth → Option (Bool) := fun ((a0, a1, a2, a3, a4, a5, a6, a7), b0, b1, b2, b3, b4, b5, b6, b7) =>
 cndO (!decide (a0 = b0))
  (some (false))
  (cndO (!decide (a1 = b1))
   (some (false))
   (cndO (!decide (a2 = b2))
    (some (false))
    (cndO (!decide (a3 = b3))
     (some (false))
     (cndO (!decide (a4 = b4))
      (some (false))
      (cndO (!decide (a5 = b5))
       (some (false))
       (bindO (F233 (a6, b6)) fun y =>
       cndO (!y)
        (some (false))
        (bindO (F234 (a7, b7)) fun y1 =>
        cndO (!y1)
         (some (false))
         (some (true)))))))))
theorem r161 (x : (Mth) × Mth) : funT T tb234 noPl 47 noIv (bodyOf Tryz.f161) ti161 to161 x = F161 x := by kernel_rfl
def te161 : TEnt := ⟨161, true, [], ti161, to161.Den, F161, resF T [.tmp 4] 47 to161 []⟩
def tb161 : Nat → Option TEnt := insT 161 te161 tb234
theorem ok161 : TbOk Tryz.prog tb161 := TbOk.ins ok234 (fun_ok ok234 layOk mixed true _ ti161 to161 [] noPl noIv Tryz.func161 rfl Tryz.results161 Tryz.ntmps161 (by kernel_rfl) (by kernel_rfl) Tryz.call161 F161 fun x _ h => (r161 x).trans h)
abbrev ti82 : SPat := ⟨[(0, .sl tg53), (1, .sl tg53)], []⟩
abbrev to82 : SPat := ⟨[(4, .b)], []⟩
abbrev ts82_4 : SPat := ⟨[(0, .sl tg53), (1, .sl tg53), (5, .i .i64)], []⟩
abbrev ts82_2000000 : SPat := ⟨[], []⟩
def tv82 : Nat → Option SPat := fun k => bif k == 4 then some ts82_4 else bif k == 2000000 then some ts82_2000000 else none
def tp82 : Nat → List Nat × Plan := fun id => bif id == 6 then ([0, 1, 2, 3, 4, 5, 6, 7], (.br 8 [7, 6, 5, 4, 3, 2, 1, 0] [] [9] .fin .fin)) else ([], .fin)
def F82 : List Mth × List Mth → Option (Bool) := fun (a, b) =>
 cndO (!decide ((a.length : Int) = (b.length : Int)))
  (some (false))
  (bindE (whileO (fun (a1, b1, i) =>
    cndO (decide (i < (a1.length : Int)))
     (grdO (decide ((0 : Int) ≤ i)) (atO (a1) i.toNat fun x => grdO (decide ((0 : Int) ≤ i)) (atO (b1) i.toNat fun x1 => bindO (F161 ((x.1, x.2.1, x.2.2.1, x.2.2.2.1, x.2.2.2.2.1, x.2.2.2.2.2.1, x.2.2.2.2.2.2.1, x.2.2.2.2.2.2.2), x1.1, x1.2.1, x1.2.2.1, x1.2.2.2.1, x1.2.2.2.2.1, x1.2.2.2.2.2.1, x1.2.2.2.2.2.2.1, x1.2.2.2.2.2.2.2)) fun y =>
     cndO (!y)
      (some (Sum.inr (Sum.inr false)))
      (some (Sum.inl (a1, b1, IntKind.wrap .i64 (i + (1 : Int))))))))
     (some (Sum.inr (Sum.inl ())))) ((a, b, (0 : Int)))) fun _ =>
  some (true))
theorem r82 (x : List Mth × List Mth) : funT T tb161 tp82 27 tv82 (bodyOf Tryz.f82) ti82 to82 x = F82 x := by kernel_rfl
def te82 : TEnt := ⟨82, true, [], ti82, to82.Den, F82, resF T [.tmp 4] 27 to82 []⟩
def tb82 : Nat → Option TEnt := insT 82 te82 tb161
theorem ok82 : TbOk Tryz.prog tb82 := TbOk.ins ok161 (fun_ok ok161 layOk mixed true _ ti82 to82 [] tp82 tv82 Tryz.func82 rfl Tryz.results82 Tryz.ntmps82 (by kernel_rfl) (by kernel_rfl) Tryz.call82 F82 fun x _ h => (r82 x).trans h)
abbrev ti27 : SPat := ⟨[(0, .agg (pl plC)), (1, .agg (pl plC))], []⟩
abbrev to27 : SPat := ⟨[(4, .b)], []⟩
def F27 : (Cls) × Cls → Option (Bool) := fun ((a0, a1, a2, a3, a4, a5, a6), b0, b1, b2, b3, b4, b5, b6) =>
 bindO (F79 (a0, b0)) fun y =>
 cndO (!y)
  (some (false))
  (cndO (!decide (a1 = b1))
   (some (false))
   (cndO (!decide (a2 = b2))
    (some (false))
    (cndO (!decide (a3 = b3))
     (some (false))
     (bindO (F80 (a4, b4)) fun y1 =>
     cndO (!y1)
      (some (false))
      (bindO (F81 (a5, b5)) fun y2 =>
      cndO (!y2)
       (some (false))
       (bindO (F82 (a6, b6)) fun y3 =>
       cndO (!y3)
        (some (false))
        (some (true))))))))
theorem r27 (x : (Cls) × Cls) : funT T tb82 noPl 44 noIv (bodyOf Tryz.f27) ti27 to27 x = F27 x := by kernel_rfl
def te27 : TEnt := ⟨27, true, [], ti27, to27.Den, F27, resF T [.tmp 4] 44 to27 []⟩
def tb27 : Nat → Option TEnt := insT 27 te27 tb82
theorem ok27 : TbOk Tryz.prog tb27 := TbOk.ins ok82 (fun_ok ok82 layOk mixed true _ ti27 to27 [] noPl noIv Tryz.func27 rfl Tryz.results27 Tryz.ntmps27 (by kernel_rfl) (by kernel_rfl) Tryz.call27 F27 fun x _ h => (r27 x).trans h)
abbrev ti6 : SPat := ⟨[(0, .agg (pl plC))], []⟩
abbrev to6 : SPat := ⟨[(2, .b)], []⟩
def tp6 : Nat → List Nat × Plan := fun id => bif id == 10 then ([0, 1], (.br 2 [1] [0] [] (.br 3 [2, 1, 0] [] [4] .fin .fin) .fin)) else ([], .fin)
def F6 : Cls → Option (Bool) := fun (aC0, aC1, aC2, aC3, aC4, aC5, aC6) =>
 bindO (F23 ((aC0, aC1, aC2, aC3, aC4, aC5, aC6), (1048576 : Int))) fun y =>
 cndO (decide (y < (0 : Int)))
  (some (true))
  (bindO (F25 (aC0, aC1, aC2, aC3, aC4, aC5, aC6)) fun (y1, y2, y3, y4, y5, y6, x) =>
  bindO (F24 (y1, y2, y3, y4, y5, y6, x)) fun y7 =>
  bindO (F25 (aC0, aC1, aC2, aC3, aC4, aC5, aC6)) fun (y8, y9, y10, y11, y12, y13, x1) =>
  bindO (F26 (y8, y9, y10, y11, y12, y13, x1)) fun y14 =>
  cndO (!decide (y14 = y7))
   (some (false))
   (bindO (F25 (aC0, aC1, aC2, aC3, aC4, aC5, aC6)) fun (y15, y16, y17, y18, y19, y20, x2) =>
   seqU (seqU (grdO (decide (y9 = y9) && (decide (y10 = y10) && (decide (y11 = y11) && true))) (some (()))) (some (()))) (bindO (F27 ((y8, y9, y10, y11, y12, y13, x1), y15, y16, y17, y18, y19, y20, x2)) fun y21 =>
   cndO (!y21)
    (some (false))
    (some (true)))))
theorem r6 (x : Cls) : funT T tb27 tp6 27 noIv (bodyOf Tryz.f6) ti6 to6 x = F6 x := by kernel_rfl
def te6 : TEnt := ⟨6, true, [], ti6, to6.Den, F6, resF T [.tmp 2] 27 to6 []⟩
theorem c6 : CtrOk Tryz.prog 6 te6.W := fun_ok ok27 layOk mixed true _ ti6 to6 [] tp6 noIv Tryz.func6 rfl Tryz.results6 Tryz.ntmps6 (by kernel_rfl) (by kernel_rfl) Tryz.call6 F6 fun x _ h => (r6 x).trans h
end Go.Proofs.YtdpapeledldifaaGreat
end
section
namespace Go.Proofs.YtdpapeledldifaaGreat
open Go Go.AM Go.TM Go.RowKit Go.ChangeShapes Go.WideShapes Go.ChangeAt
theorem own : ownKnob Tryz.prog.godebug = none := by kernel_rfl
theorem laidOut : laidOutB Tryz.prog = true := by kernel_rfl
theorem rd45 : rdT Tryz.prog 8 tg33 45 = true := by kernel_rfl
theorem row6 (x : tg33.Den) (h : F6 x = some true) : AC Tryz.prog 6 [.agg (encC false tg33 x)] [] fun sv _ => sv = .b true :=
 law_one Tryz.func6 (by kernel_rfl) (by kernel_rfl) c6 x x true rfl rfl h rfl
set_option maxRecDepth 100000 in
theorem lifted6 (hall : ∀ x : tg33.Den, small tg33 x → F6 x = some true) (os : Os) (started : os.Started) (H : Type) (enc : TypeId × Value → H) :
  ReturnsInHanded {} Tryz.checked os 6 .any (Rows.fnExactFrameManySpec.pre6 enc Tryz.prog Tryz.f6 [] false) (Rows.fnExactFrameManySpec.post enc Tryz.prog Tryz.f6 false true false false) := by
 refine returnsInHanded_of_change_sized (C := Tryz.checked) own started (by kernel_rfl) Tryz.func6
  (ChangeSpec.witness6 (enc := enc) (C := Tryz.checked) false ⟨#[], #[.agg #[.slice none 0 0, .int .i64 0, .int .i64 0, .int .i64 0, .slice none 0 0, .slice none 0 0, .slice none 0 0]], []⟩ 8 (by kernel_rfl) (by kernel_rfl) (by kernel_rfl) (by kernel_rfl)) ?_
 intro W base args ds gs before hval0 hW _ hsz0 _
 have hval : ∀ (j : Nat) t v, Tryz.f6.params[j]? = some t → args[j]? = some v → Value.okWide Tryz.prog W .any base t v := hval0
 have hsz : (DataW.weightsEach Tryz.prog (Tryz.f6.params.toList ++ []) (ds ++ gs)).all (· ≤ reachBytes) = true := hsz0
 have hW' := hW
 obtain ⟨p, q, hA0, hV, rfl, hfz, hnd⟩ := hW
 have hA : DataW.TrodAll enc Tryz.prog W 0 (fun _ => true) true Tryz.f6.params.toList args.toList ds p := hA0
 rw [Tryz.params6] at hA hval hsz
 obtain ⟨v0, d0, rfl, rfl, h0⟩ := trodAll_one hA
 obtain ⟨rfl, rfl⟩ := trodVars_none hV
 obtain ⟨cs, rfl, hcs⟩ := okWide_struct Tryz.underlying45 (hval 0 45 v0 rfl rfl)
 have h0k := h0
 obtain ⟨fuel, ht⟩ := h0
 obtain ⟨x, sx, lx, ox, rx⟩ := opens 8 fuel tg33 45 cs.toList d0 p rd45 ht (fun m hm => by
  have := List.all_eq_true.1 hsz m (by simpa [DataW.weightsEach] using hm)
  simpa using this)
 have hlt : ∀ z ∈ p, z.block < W.heap.size := fun z hz => hW'.lt z (by simpa using hz)
 refine (calls_law Tryz.func6 (by kernel_rfl) (by kernel_rfl) (row6 x (hall x sx)) (fun _ _ h => h) rfl (fun G hG => RL_one (by
  simp only [R]
  exact ⟨cs, rfl, by rw [encC_len]; simpa using lx, rx G hG⟩))).mono fun e W' ⟨he, hb⟩ => ?_
 subst he
 exact ⟨_, rfl, [d0], [], p ++ [], [], p, [], hW', trodAll_mk1 (shut_bool Tryz.underlying4 true), trodAll_mk1 (Below.trod laidOut (by kernel_rfl) (of_decide_eq_true (by kernel_rfl)) h0k hb hlt), rfl, hb.frame _, fun h => by cases h⟩
end Go.Proofs.YtdpapeledldifaaGreat
end
section
namespace Go.Proofs.YtdpapeledldifaaGreat
open Go Go.AM Go.TM Go.RowKit Go.ChangeShapes Go.WideShapes Go.ChangeAt
theorem band {a b : Bool} (h1 : a = true) (h2 : b = true) : (a && b) = true := by rw [h1, h2]; rfl
set_option maxHeartbeats 4000000 in
theorem joined6 : joinedFacts Tryz.pinned.checked.prog 6 Tryz.f6 Rows.fnExactFrameManySpec Rows.fnExactFrameManyRow = true := by
 unfold joinedFacts
 repeat' with_reducible apply band
 all_goals (as_aux_lemma => kernel_rfl)
end Go.Proofs.YtdpapeledldifaaGreat
end
section
namespace Go.Proofs.YtdpapeledldifaaGreat
open Go Go.AM Go.TM Go.RowKit Go.ChangeShapes Go.WideShapes Go.ChangeAt
theorem fnExactFrameMany_of (hall : ∀ x : tg33.Den, small tg33 x → F6 x = some true) : Rows.FnExactFrameManySaid :=
 OpenClaim.holds_of_wide 6 Tryz.f6 rfl rfl rfl rfl rfl rfl rfl ⟨rfl, rfl, rfl, rfl, rfl⟩ rfl rfl rfl rfl rfl (by kernel_rfl) Tryz.func6 joined6
  (of_decide_eq_true (by kernel_rfl)) (by unfold Func.isWrapper; first | (rw [if_pos (by decide +kernel)]; kernel_rfl) | (rw [if_neg (by decide +kernel)]; exact ⟨rfl, rfl⟩))
  (fun os started H enc _ => lifted6 hall os started H enc)
end Go.Proofs.YtdpapeledldifaaGreat
end
section
namespace Go.TM
open Go.AM
section
variable {R α X Y : Type}
@[simp] theorem cndO_t (A B : Option R) : cndO true A B = A := rfl
@[simp] theorem cndO_f (A B : Option R) : cndO false A B = B := rfl
@[simp] theorem cndO_d {p : Prop} [Decidable p] (A B : Option R) : cndO (decide p) A B = if p then A else B := by
 by_cases h : p <;> simp [h]
@[simp] theorem cndO_n (b : Bool) (A B : Option R) : cndO (!b) A B = cndO b B A := by cases b <;> rfl
@[simp] theorem grdO_t (A : Option R) : grdO true A = A := rfl
theorem grdO_d {p : Prop} [Decidable p] {A : Option R} (h : p) : grdO (decide p) A = A := by simp [h]
theorem grdO_and (a b : Bool) (A : Option R) : grdO (a && b) A = grdO a (grdO b A) := by cases a <;> rfl
@[simp] theorem bindO_s (a : α) (k : α → Option R) : bindO (some a) k = k a := rfl
@[simp] theorem bindE_l (y : Y) (k : Y → Option R) : bindE (some (.inl y)) k = k y := rfl
@[simp] theorem bindE_r (r : R) (k : Y → Option R) : bindE (some (.inr r)) k = some r := rfl
@[simp] theorem seqU_s (u : Unit) (k : Option R) : seqU (some u) k = k := rfl
theorem atO_at {l : List α} {n : Nat} {x : α} {k : α → Option R} (h : l[n]? = some x) : atO l n k = k x := by unfold atO; rw [h]
theorem atO_get {l : List α} {n : Nat} {k : α → Option R} (h : n < l.length) : atO l n k = k l[n] := atO_at (List.getElem?_eq_getElem h)
theorem bindE_if {c : Prop} [Decidable c] (A B : Option (Y ⊕ R)) (k : Y → Option R) : bindE (if c then A else B) k = if c then bindE A k else bindE B k := by split <;> rfl
theorem whileO_tot {f : X → Option (X ⊕ Y)} (μ : X → Nat) (I : X → Prop) (Q : Y → Prop)
  (h : ∀ x, I x → (∃ x', f x = some (.inl x') ∧ μ x' < μ x ∧ I x') ∨ ∃ y, f x = some (.inr y) ∧ Q y) : ∀ x, I x → ∃ y, whileO f x = some y ∧ Q y := by
 intro x
 generalize hn : μ x = n
 induction n using Nat.strongRecOn generalizing x with
 | _ n ih =>
  intro hI
  rw [whileO_eq]
  rcases h x hI with ⟨x', hf, hlt, hI'⟩ | ⟨y, hf, hQ⟩
  ·rw [hf]
   exact ih (μ x') (by omega) x' rfl hI'
  ·rw [hf]
   exact ⟨y, rfl, hQ⟩
theorem whileO_is {f : X → Option (X ⊕ Y)} (μ : X → Nat) (I : X → Prop) (g : X → Y)
  (h : ∀ x, I x → (∃ x', f x = some (.inl x') ∧ μ x' < μ x ∧ I x' ∧ g x' = g x) ∨ f x = some (.inr (g x))) (x : X) (hI : I x) : whileO f x = some (g x) := by
 obtain ⟨y, h1, h2⟩ := whileO_tot μ (fun z => I z ∧ g z = g x) (fun y => y = g x) (by
  rintro z ⟨hz, hg⟩
  rcases h z hz with ⟨z', h1, h2, h3, h4⟩ | h1
  ·exact .inl ⟨z', h1, h2, h3, h4.trans hg⟩
  ·exact .inr ⟨g z, h1, hg⟩) x ⟨hI, rfl⟩
 rw [h1, h2]
theorem drop_cons {l : List α} {n : Nat} (h : n < l.length) : l.drop n = l[n] :: l.drop (n + 1) := List.drop_eq_getElem_cons h
end
end Go.TM
end
section
namespace Go.TM
open Go.AM
section
variable {α β : Type}
noncomputable def eqL (g : α × α → Option Bool) : List α × List α → Option Bool := fun (a, b) =>
 cndO (!decide ((a.length : Int) = b.length)) (some false)
  (bindE (whileO (fun (a1, b1, i) =>
    cndO (decide (i < ((a1 : List α).length : Int)))
     (grdO (decide ((0 : Int) ≤ i)) (atO a1 (Int.toNat i) fun x => grdO (decide ((0 : Int) ≤ i)) (atO (b1 : List α) (Int.toNat i) fun x1 => bindO (g (x, x1)) fun y =>
     cndO (!y) (some (Sum.inr (Sum.inr false))) (some (Sum.inl (a1, b1, IntKind.wrap .i64 (i + 1)))))))
     (some (Sum.inr (Sum.inl ())))) (a, b, (0 : Int))) fun _ => some true)
theorem eqL_spec [DecidableEq α] {g : α × α → Option Bool} {a b : List α} (hg : ∀ x ∈ a, ∀ y ∈ b, g (x, y) = some (decide (x = y))) (hl : a.length < 9223372036854775807) : eqL g (a, b) = some (decide (a = b)) := by
 simp only [eqL, cndO_n, cndO_d]
 by_cases hab : (a.length : Int) = b.length
 ·rw [if_pos hab]
  have hab' : a.length = b.length := by omega
  have key := whileO_is (Y := Unit ⊕ Bool) (f := fun (p : List α × List α × Int) =>
    if p.2.2 < (p.1.length : Int) then
     (grdO (decide ((0 : Int) ≤ p.2.2)) (atO p.1 (Int.toNat p.2.2) fun x => grdO (decide ((0 : Int) ≤ p.2.2)) (atO p.2.1 (Int.toNat p.2.2) fun x1 => bindO (g (x, x1)) fun y =>
     cndO y (some (Sum.inl (p.1, p.2.1, IntKind.wrap .i64 (p.2.2 + 1)))) (some (Sum.inr (Sum.inr false))))))
     else (some (Sum.inr (Sum.inl ()))))
   (fun p => a.length - p.2.2.toNat) (fun p => p.1 = a ∧ p.2.1 = b ∧ 0 ≤ p.2.2 ∧ p.2.2 ≤ a.length)
   (fun p => if a.drop p.2.2.toNat = b.drop p.2.2.toNat then .inl () else .inr false) (by
    rintro ⟨a1, b1, i⟩ ⟨ha, hb, h0, h1⟩
    simp only at ha hb h0 h1 ⊢
    subst ha hb
    by_cases hi : i < (a1.length : Int)
    ·rw [if_pos hi]
     have hn : i.toNat < a1.length := by omega
     have hn2 : i.toNat < b1.length := by omega
     rw [grdO_d h0, atO_get hn, grdO_d h0, atO_get hn2, hg _ (List.getElem_mem hn) _ (List.getElem_mem hn2)]
     simp only [bindO_s, cndO_d]
     rw [drop_cons hn, drop_cons hn2]
     by_cases hx : a1[i.toNat] = b1[i.toNat]
     ·rw [if_pos hx]
      refine .inl ⟨_, rfl, ?_, ⟨rfl, rfl, ?_, ?_⟩, ?_⟩
      ·simp only; rw [wrapI (by omega) (by omega)]; omega
      ·simp only; rw [wrapI (by omega) (by omega)]; omega
      ·simp only; rw [wrapI (by omega) (by omega)]; omega
      ·simp only
       rw [wrapI (by omega) (by omega), show (i + 1).toNat = i.toNat + 1 by omega]
       simp only [hx, List.cons.injEq, true_and]
     ·rw [if_neg hx]
      refine .inr ?_
      rw [if_neg (fun h => hx (List.cons.inj h).1)]
    ·rw [if_neg hi]
     refine .inr ?_
     rw [List.drop_eq_nil_of_le (by omega), List.drop_eq_nil_of_le (by omega)]
     simp) (a, b, 0) ⟨rfl, rfl, by simp, by simp⟩
  simp only at key
  rw [key]
  simp only [Int.toNat_zero, List.drop_zero]
  by_cases h : a = b
  ·simp [h]
  ·simp [h]
 ·rw [if_neg hab]
  have : a ≠ b := fun h => hab (by rw [h])
  simp [this]
noncomputable def szL (g : α × Int → Option Int) : List α × Int → Option Int := fun (a, left) =>
 cndO (decide (IntKind.wrap .i64 (left - (a.length : Int)) < (0 : Int))) (some (-1))
  (bindE (whileO (fun (a1, left1, i) =>
    cndO (decide (i < ((a1 : List α).length : Int)))
     (grdO (decide ((0 : Int) ≤ i)) (atO a1 (Int.toNat i) fun x => bindO (g (x, left1)) fun y =>
     cndO (decide (y < (0 : Int))) (some (Sum.inr (Sum.inr (-1 : Int)))) (some (Sum.inl (a1, y, IntKind.wrap .i64 (i + 1))))))
     (some (Sum.inr (Sum.inl left1)))) (a, IntKind.wrap .i64 (left - (a.length : Int)), (0 : Int))) fun left1 => some left1)
def SzOk (r : Option Int) (left : Int) (P : Prop) : Prop := ∃ y, r = some y ∧ -1 ≤ y ∧ y ≤ left ∧ (0 ≤ y → P)
theorem szL_spec {g : α × Int → Option Int} {P : α → Prop} {a : List α} {left : Int} (h0 : 0 ≤ left) (h1 : left ≤ 1048576) (hl : a.length < 9223372036854775807 - 1048576)
  (hg : ∀ x ∈ a, ∀ left, 0 ≤ left → left ≤ 1048576 → SzOk (g (x, left)) left (P x)) : SzOk (szL g (a, left)) left (a.length ≤ 1048576 ∧ ∀ x ∈ a, P x) := by
 simp only [szL, cndO_d]
 have w : IntKind.wrap .i64 (left - (a.length : Int)) = left - a.length := wrapI (by omega) (by omega)
 rw [w]
 by_cases hn : left - (a.length : Int) < 0
 ·rw [if_pos hn]; exact ⟨-1, rfl, by omega, by omega, by omega⟩
 ·rw [if_neg hn]
  obtain ⟨y, h2, h3⟩ := whileO_tot (Y := Int ⊕ Int) (f := fun (p : List α × Int × Int) =>
    if p.2.2 < (p.1.length : Int) then
     (grdO (decide ((0 : Int) ≤ p.2.2)) (atO p.1 (Int.toNat p.2.2) fun x => bindO (g (x, p.2.1)) fun y =>
     if y < (0 : Int) then (some (Sum.inr (Sum.inr (-1 : Int)))) else (some (Sum.inl (p.1, y, IntKind.wrap .i64 (p.2.2 + 1))))))
    else (some (Sum.inr (Sum.inl p.2.1))))
   (fun p => a.length - p.2.2.toNat) (fun p => p.1 = a ∧ 0 ≤ p.2.1 ∧ p.2.1 ≤ left ∧ 0 ≤ p.2.2 ∧ p.2.2 ≤ a.length ∧ ∀ j, j < p.2.2.toNat → ∀ x, a[j]? = some x → P x)
   (fun y => (∃ z, y = .inl z ∧ 0 ≤ z ∧ z ≤ left ∧ ∀ x ∈ a, P x) ∨ y = .inr (-1)) (by
    rintro ⟨a1, l1, i⟩ ⟨ha, q1, q2, q3, q4, q5⟩
    simp only at ha q1 q2 q3 q4 q5 ⊢
    subst ha
    by_cases hi : i < (a1.length : Int)
    ·rw [if_pos hi]
     have hn : i.toNat < a1.length := by omega
     obtain ⟨y, e1, e2, e3, e4⟩ := hg _ (List.getElem_mem hn) l1 q1 (by omega)
     rw [grdO_d q3, atO_get hn, e1]
     simp only [bindO_s]
     by_cases hy : y < 0
     ·rw [if_pos hy]; exact .inr ⟨_, rfl, .inr rfl⟩
     ·rw [if_neg hy]
      have w : IntKind.wrap .i64 (i + 1) = i + 1 := wrapI (by omega) (by omega)
      refine .inl ⟨_, rfl, ?_, rfl, ?_, ?_, ?_, ?_, ?_⟩ <;> simp only [w] <;> try omega
      intro j hj x hx
      by_cases hji : j < i.toNat
      ·exact q5 j hji x hx
      ·have : j = i.toNat := by omega
       subst this
       rw [List.getElem?_eq_getElem hn] at hx
       simp only [Option.some.injEq] at hx
       rw [← hx]; exact e4 (by omega)
    ·rw [if_neg hi]
     refine .inr ⟨_, rfl, .inl ⟨_, rfl, q1, q2, fun x hx => ?_⟩⟩
     obtain ⟨j, hj, rfl⟩ := List.mem_iff_getElem.1 hx
     exact q5 j (by omega) _ (List.getElem?_eq_getElem hj)) (a, left - a.length, 0) ⟨rfl, by simp only; omega, by simp only; omega, by simp, by simp, by simp⟩
  rw [h2]
  rcases h3 with ⟨z, rfl, h4, h5, h6⟩ | rfl
  ·exact ⟨z, rfl, by omega, h5, fun _ => ⟨by omega, h6⟩⟩
  ·exact ⟨-1, rfl, by omega, by omega, by omega⟩
theorem take_set1 {l : List β} {n : Nat} {v : β} (h : n < l.length) : (l.set n v).take (n + 1) = l.take n ++ [v] := by
 rw [List.take_succ_eq_append_getElem (by simpa using h), List.getElem_set_self, List.take_set_of_le (Nat.le_refl n)]
noncomputable def toL (b : Int) (z : β) (g : α → Option β) : List α → Option (List β) := fun a =>
 grdO (decide ((a.length : Int) = a.length) && decide ((0 : Int) ≤ a.length) && decide ((a.length : Int) ≤ 9223372036854775807) && decide ((a.length : Int) * b ≤ 140737488355328)) (bindE (whileO (fun (a1, out, i) =>
   cndO (decide (i < ((a1 : List α).length : Int)))
    (grdO (decide ((0 : Int) ≤ i)) (atO a1 (Int.toNat i) fun x => bindO (g x) fun y =>
    grdO (decide ((0 : Int) ≤ i) && decide (i < ((out : List β).length : Int))) (atO out (Int.toNat i) fun x1 => some (Sum.inl (a1, List.set out (Int.toNat i) y, IntKind.wrap .i64 (i + 1))))))
    (some (Sum.inr (Sum.inl out)))) (a, List.replicate (Int.toNat (a.length : Int)) z, (0 : Int))) fun out => some out)
theorem toL_spec {b : Int} {z : β} {g : α → Option β} {f : α → β} {a : List α} (hb : (a.length : Int) * b ≤ 140737488355328) (hl : a.length < 9223372036854775807) (hg : ∀ x ∈ a, g x = some (f x)) : toL b z g a = some (a.map f) := by
 unfold toL
 rw [show (decide ((a.length : Int) = a.length) && decide ((0 : Int) ≤ a.length) && decide ((a.length : Int) ≤ 9223372036854775807) && decide ((a.length : Int) * b ≤ 140737488355328)) = true by
  simp only [Bool.and_eq_true, decide_eq_true_eq]; exact ⟨⟨⟨trivial, by omega⟩, by omega⟩, hb⟩]
 simp only [cndO_d, grdO_t]
 have key := whileO_is (Y := List β ⊕ List β) (f := fun (p : List α × List β × Int) =>
   if p.2.2 < (p.1.length : Int) then
    (grdO (decide ((0 : Int) ≤ p.2.2)) (atO p.1 (Int.toNat p.2.2) fun x => bindO (g x) fun y =>
    grdO (decide ((0 : Int) ≤ p.2.2) && decide (p.2.2 < (p.2.1.length : Int))) (atO p.2.1 (Int.toNat p.2.2) fun x1 => some (Sum.inl (p.1, List.set p.2.1 (Int.toNat p.2.2) y, IntKind.wrap .i64 (p.2.2 + 1))))))
   else (some (Sum.inr (Sum.inl p.2.1))))
  (fun p => a.length - p.2.2.toNat) (fun p => p.1 = a ∧ p.2.1.length = a.length ∧ 0 ≤ p.2.2 ∧ p.2.2 ≤ a.length)
  (fun p => .inl (p.2.1.take p.2.2.toNat ++ (a.drop p.2.2.toNat).map f)) (by
   rintro ⟨a1, out, i⟩ ⟨ha, h2, h0, h1⟩
   simp only at ha h0 h1 h2 ⊢
   subst ha
   by_cases hi : i < (a1.length : Int)
   ·rw [if_pos hi]
    have hn : i.toNat < a1.length := by omega
    have hn2 : i.toNat < out.length := by omega
    rw [grdO_d h0, atO_get hn, hg _ (List.getElem_mem hn)]
    simp only [bindO_s]
    rw [grdO_and, grdO_d h0, grdO_d (by omega), atO_get hn2]
    have w : IntKind.wrap .i64 (i + 1) = i + 1 := wrapI (by omega) (by omega)
    refine .inl ⟨_, rfl, ?_, ⟨rfl, ?_, ?_, ?_⟩, ?_⟩ <;> simp only [w, List.length_set] <;> try omega
    rw [show (i + 1).toNat = i.toNat + 1 by omega, drop_cons hn, take_set1 hn2, List.map_cons, List.append_assoc]
    rfl
   ·rw [if_neg hi]
    refine .inr ?_
    rw [List.drop_eq_nil_of_le (by omega), List.take_of_length_le (by omega)]
    simp) (a, List.replicate a.length z, 0) ⟨rfl, by simp, by simp, by simp⟩
 simp only at key
 rw [show Int.toNat (a.length : Int) = a.length by omega, key]
 simp
theorem SzOk.imp {r : Option Int} {left : Int} {P Q : Prop} (h : SzOk r left P) (hq : P → Q) : SzOk r left Q := by
 obtain ⟨y, h1, h2, h3, h4⟩ := h; exact ⟨y, h1, h2, h3, fun h => hq (h4 h)⟩
theorem sz_len {n : Nat} {left : Int} (h0 : 0 ≤ left) (h1 : left ≤ 1048576) (hl : n ≤ 140737488351232) :
  SzOk (cndO (decide (IntKind.wrap IntKind.i64 (left - (n : Int)) < (0 : Int))) (some (-1 : Int)) (some (IntKind.wrap IntKind.i64 (left - (n : Int))))) left (n ≤ 1048576) := by
 rw [wrapI (by omega) (by omega), cndO_d]
 by_cases h : left - (n : Int) < 0
 ·rw [if_pos h]; exact ⟨-1, rfl, by omega, by omega, by omega⟩
 ·rw [if_neg h]; exact ⟨_, rfl, by omega, by omega, by omega⟩
theorem SzOk.bind {r : Option Int} {k : Int → Option Int} {left : Int} {P Q : Prop} (h : SzOk r left P) (hk : ∀ y, 0 ≤ y → y ≤ left → SzOk (k y) y Q) :
  SzOk (bindO r fun y => cndO (decide (y < (0 : Int))) (some (-1 : Int)) (k y)) left (P ∧ Q) := by
 obtain ⟨y, h1, h2, h3, h4⟩ := h
 rw [h1, bindO_s, cndO_d]
 by_cases hy : y < 0
 ·rw [if_pos hy]; exact ⟨-1, rfl, by omega, by omega, by omega⟩
 ·rw [if_neg hy]
  obtain ⟨z, g1, g2, g3, g4⟩ := hk y (by omega) h3
  exact ⟨z, g1, g2, by omega, fun hz => ⟨h4 (by omega), g4 hz⟩⟩
theorem SzOk.end_ (y : Int) (h : 0 ≤ y) : SzOk (some y) y True := ⟨y, rfl, by omega, by omega, fun _ => trivial⟩
end
end Go.TM
end
section
namespace Go.Proofs.YtdpapeledldifaaGreat
open Go Go.AM Go.TM
def bCst (c : Cst) : Prop := c.2.1.length ≤ 1048576
def bKnds (l : List Knd) : Prop := l.length ≤ 1048576
def bFrm (f : Frm) : Prop := bKnds f.2.1 ∧ bKnds f.2.2
def bMth (m : Mth) : Prop := m.2.2.2.2.2.1.length ≤ 1048576 ∧ m.2.2.2.2.2.2.1.length ≤ 1048576 ∧ m.2.2.2.2.2.2.2.length ≤ 1048576 ∧ ∀ f ∈ m.2.2.2.2.2.2.2, bFrm f
def bCls (c : Cls) : Prop := (c.1.length ≤ 1048576 ∧ ∀ x ∈ c.1, bCst x) ∧ c.2.2.2.2.1.length ≤ 1048576 ∧ c.2.2.2.2.2.1.length ≤ 1048576 ∧ c.2.2.2.2.2.2.length ≤ 1048576 ∧ ∀ x ∈ c.2.2.2.2.2.2, bMth x
theorem sz154 (c : Cst) (left : Int) (h0 : 0 ≤ left) (h1 : left ≤ 1048576) (hs : c.2.1.length ≤ 140737488351232) : SzOk (F154 (c, left)) left (bCst c) := sz_len h0 h1 hs
theorem f71 : F71 = szL F154 := rfl
theorem f230 : F230 = szL F283 := rfl
theorem f74 : F74 = szL F155 := rfl
theorem sz71 (a : List Cst) (left : Int) (h0 : 0 ≤ left) (h1 : left ≤ 1048576) (hs : a.length ≤ 140737488351232 ∧ ∀ x ∈ a, x.2.1.length ≤ 140737488351232) : SzOk (F71 (a, left)) left (a.length ≤ 1048576 ∧ ∀ x ∈ a, bCst x) := by
 rw [f71]; exact szL_spec h0 h1 (by omega) fun x hx left g0 g1 => sz154 x left g0 g1 (hs.2 x hx)
theorem sz318 (a : List Knd) (left : Int) (h0 : 0 ≤ left) (h1 : left ≤ 1048576) (hs : a.length ≤ 140737488351232) : SzOk (F318 (a, left)) left (bKnds a) := sz_len h0 h1 hs
theorem sz283 (f : Frm) (left : Int) (h0 : 0 ≤ left) (h1 : left ≤ 1048576) (hs : f.2.1.length ≤ 140737488351232 ∧ f.2.2.length ≤ 140737488351232) : SzOk (F283 (f, left)) left (bFrm f) := by
 obtain ⟨a0, a1, a2⟩ := f
 exact (SzOk.bind (sz318 a1 left h0 h1 hs.1) fun y g0 g1 => SzOk.bind (sz318 a2 y g0 (by omega) hs.2) fun z k0 k1 => SzOk.end_ z k0).imp fun ⟨p, q, _⟩ => ⟨p, q⟩
theorem sz230 (a : List Frm) (left : Int) (h0 : 0 ≤ left) (h1 : left ≤ 1048576) (hs : a.length ≤ 140737488351232 ∧ ∀ f ∈ a, f.2.1.length ≤ 140737488351232 ∧ f.2.2.length ≤ 140737488351232) : SzOk (F230 (a, left)) left (a.length ≤ 1048576 ∧ ∀ x ∈ a, bFrm x) := by
 rw [f230]; exact szL_spec h0 h1 (by omega) fun x hx left g0 g1 => sz283 x left g0 g1 (hs.2 x hx)
def lMth (m : Mth) : Prop := m.2.2.2.2.2.1.length ≤ 140737488351232 ∧ m.2.2.2.2.2.2.1.length ≤ 140737488351232 ∧ m.2.2.2.2.2.2.2.length ≤ 140737488351232 ∧ ∀ f ∈ m.2.2.2.2.2.2.2, f.2.1.length ≤ 140737488351232 ∧ f.2.2.length ≤ 140737488351232
theorem sz155 (m : Mth) (left : Int) (h0 : 0 ≤ left) (h1 : left ≤ 1048576) (hs : lMth m) : SzOk (F155 (m, left)) left (bMth m) := by
 obtain ⟨a0, a1, a2, a3, a4, a5, a6, a7⟩ := m
 obtain ⟨s1, s2, s3, s4⟩ := hs
 simp only at s1 s2 s3 s4
 show SzOk (cndO _ _ _) _ _
 rw [wrapI (by omega) (by omega), cndO_d]
 by_cases h : left - (a5.length : Int) < 0
 ·rw [if_pos h]; exact ⟨-1, rfl, by omega, by omega, by omega⟩
 ·rw [if_neg h]
  obtain ⟨y, g1, g2, g3, g4⟩ := SzOk.bind (sz_len (by omega) (by omega) s2 : SzOk (F229 (a6, left - a5.length)) _ _) fun y g0 g1 => SzOk.bind (sz230 a7 y g0 (by omega) ⟨s3, s4⟩) fun z k0 k1 => SzOk.end_ z k0
  exact ⟨y, g1, g2, by omega, fun hy => by
   obtain ⟨p, ⟨q1, q2⟩, _⟩ := g4 hy
   exact ⟨by simp only; omega, p, q1, q2⟩⟩
theorem sz74 (a : List Mth) (left : Int) (h0 : 0 ≤ left) (h1 : left ≤ 1048576) (hs : a.length ≤ 140737488351232 ∧ ∀ m ∈ a, lMth m) : SzOk (F74 (a, left)) left (a.length ≤ 1048576 ∧ ∀ x ∈ a, bMth x) := by
 rw [f74]; exact szL_spec h0 h1 (by omega) fun x hx left g0 g1 => sz155 x left g0 g1 (hs.2 x hx)
theorem sz23 (c : Cls) (hs : small tg33 c) : SzOk (F23 (c, 1048576)) 1048576 (bCls c) := by
 obtain ⟨a0, a1, a2, a3, a4, a5, a6⟩ := c
 obtain ⟨⟨s1, s2⟩, _, _, _, ⟨s3, _⟩, ⟨s4, _⟩, ⟨s5, s6⟩⟩ := hs
 simp only at s1 s2 s3 s4 s5 s6
 exact (SzOk.bind (sz71 a0 1048576 (by omega) (by omega) ⟨s1, fun x hx => (s2 x hx).2.1⟩) fun y g0 g1 => SzOk.bind (sz_len g0 (by omega) s3) fun y2 k0 k1 => SzOk.bind (sz_len k0 (by omega) s4) fun y3 l0 l1 =>
  SzOk.bind (sz74 a6 y3 l0 (by omega) ⟨s5, fun m hm => by
   obtain ⟨_, _, _, _, _, t1, ⟨t2, _⟩, ⟨t3, t4⟩⟩ := s6 m hm
   exact ⟨t1, t2, t3, fun f hf => by obtain ⟨_, ⟨u1, _⟩, ⟨u2, _⟩⟩ := t4 f hf; exact ⟨u1, u2⟩⟩⟩) fun y4 m0 m1 => SzOk.end_ y4 m0).imp fun ⟨p1, p2, p3, p4, _⟩ => ⟨p1, p2, p3, p4.1, p4.2⟩
theorem t75 : F75 = toL 40 (0, [], 0, 0) F156 := rfl
theorem t76 : F76 = toL 8 0 some := rfl
theorem t77 : F77 = toL 24 (0, 0, 0) F157 := rfl
theorem t231 : F231 = toL 32 (0, 0, 0, 0) F284 := rfl
theorem t319 : F319 = toL 16 (0, 0) F328 := rfl
theorem t232 : F232 = toL 56 (0, [], []) F285 := rfl
theorem t78 : F78 = toL 104 (0, 0, 0, 0, 0, [], [], []) F158 := rfl
theorem toL_id {α : Type} {b : Int} {z : α} {g : α → Option α} {a : List α} (h0 : 0 ≤ b) (h1 : b ≤ 128) (hl : a.length ≤ 1048576) (hg : ∀ x ∈ a, g x = some x) : toL b z g a = some a := by
 rw [toL_spec (f := id) ?_ (by omega) hg, List.map_id]
 have : (a.length : Int) * b ≤ 1048576 * 128 := Int.mul_le_mul (by omega) h1 h0 (by omega)
 omega
theorem cp319 (l : List Knd) (h : bKnds l) : F319 l = some l := by
 rw [t319]; exact toL_id (by omega) (by omega) h fun _ _ => rfl
theorem cp285 (f : Frm) (h : bFrm f) : F285 f = some f := by
 obtain ⟨a, b, c⟩ := f
 show bindO _ _ = _
 rw [cp319 b h.1, bindO_s, cp319 c h.2, bindO_s]
theorem cp158 (m : Mth) (h : bMth m) : F158 m = some m := by
 obtain ⟨a0, a1, a2, a3, a4, a5, a6, a7⟩ := m
 obtain ⟨h1, h2, h3, h4⟩ := h
 show bindO _ _ = _
 simp only at h2 h3 h4
 rw [t231, toL_id (g := F284) (by omega) (by omega) h2 fun _ _ => rfl, bindO_s, t232, toL_id (by omega) (by omega) h3 fun x hx => cp285 x (h4 x hx), bindO_s]
theorem cp25 (c : Cls) (h : bCls c) : F25 c = some c := by
 obtain ⟨a0, a1, a2, a3, a4, a5, a6⟩ := c
 obtain ⟨⟨h1, _⟩, h2, h3, h4, h5⟩ := h
 show bindO _ _ = _
 simp only at h1 h2 h3 h4 h5
 rw [t75, toL_id (g := F156) (by omega) (by omega) h1 fun _ _ => rfl, bindO_s, t76, toL_id (g := some) (by omega) (by omega) h2 fun _ _ => rfl, bindO_s, t77, toL_id (g := F157) (by omega) (by omega) h3 fun _ _ => rfl, bindO_s,
  t78, toL_id (by omega) (by omega) h4 fun x hx => cp158 x (h5 x hx), bindO_s]
theorem e79 : F79 = eqL F159 := rfl
theorem e80 : F80 = eqL fun p => some (decide (p.1 = p.2)) := rfl
theorem e81 : F81 = eqL F160 := rfl
theorem e233 : F233 = eqL F286 := rfl
theorem e320 : F320 = eqL F329 := rfl
theorem e234 : F234 = eqL F287 := rfl
theorem e82 : F82 = eqL F161 := rfl
theorem eq159 (x y : Cst) : F159 (x, y) = some (decide (x = y)) := by
 obtain ⟨a0, a1, a2, a3⟩ := x; obtain ⟨b0, b1, b2, b3⟩ := y
 simp only [F159, cndO_n, cndO_d, Prod.mk.injEq]
 by_cases h0 : a0 = b0 <;> by_cases h1 : a1 = b1 <;> by_cases h2 : a2 = b2 <;> by_cases h3 : a3 = b3 <;> simp [h0, h1, h2, h3]
theorem eq160 (x y : Fld) : F160 (x, y) = some (decide (x = y)) := by
 obtain ⟨a0, a1, a2⟩ := x; obtain ⟨b0, b1, b2⟩ := y
 simp only [F160, cndO_n, cndO_d, Prod.mk.injEq]
 by_cases h0 : a0 = b0 <;> by_cases h1 : a1 = b1 <;> by_cases h2 : a2 = b2 <;> simp [h0, h1, h2]
theorem eq286 (x y : Trp) : F286 (x, y) = some (decide (x = y)) := by
 obtain ⟨a0, a1, a2, a3⟩ := x; obtain ⟨b0, b1, b2, b3⟩ := y
 simp only [F286, cndO_n, cndO_d, Prod.mk.injEq]
 by_cases h0 : a0 = b0 <;> by_cases h1 : a1 = b1 <;> by_cases h2 : a2 = b2 <;> by_cases h3 : a3 = b3 <;> simp [h0, h1, h2, h3]
theorem eq329 (x y : Knd) : F329 (x, y) = some (decide (x = y)) := by
 obtain ⟨a0, a1⟩ := x; obtain ⟨b0, b1⟩ := y
 simp only [F329, cndO_n, cndO_d, Prod.mk.injEq]
 by_cases h0 : a0 = b0 <;> by_cases h1 : a1 = b1 <;> simp [h0, h1]
theorem eq320 (a b : List Knd) (h : bKnds a) : F320 (a, b) = some (decide (a = b)) := by
 rw [e320]; exact eqL_spec (fun x _ y _ => eq329 x y) (by simp only [bKnds] at h; omega)
theorem eq287 (x y : Frm) (h : bFrm x) : F287 (x, y) = some (decide (x = y)) := by
 obtain ⟨a0, a1, a2⟩ := x; obtain ⟨b0, b1, b2⟩ := y
 simp only [F287, eq320 a1 b1 h.1, eq320 a2 b2 h.2, bindO_s, cndO_n, cndO_d, Prod.mk.injEq]
 by_cases h0 : a0 = b0 <;> by_cases h1 : a1 = b1 <;> by_cases h2 : a2 = b2 <;> simp [h0, h1, h2]
theorem eq161 (x y : Mth) (h : bMth x) : F161 (x, y) = some (decide (x = y)) := by
 obtain ⟨a0, a1, a2, a3, a4, a5, a6, a7⟩ := x; obtain ⟨b0, b1, b2, b3, b4, b5, b6, b7⟩ := y
 obtain ⟨h1, h2, h3, h4⟩ := h
 simp only at h1 h2 h3 h4
 have q1 : F233 (a6, b6) = some (decide (a6 = b6)) := by rw [e233]; exact eqL_spec (fun x _ y _ => eq286 x y) (by omega)
 have q2 : F234 (a7, b7) = some (decide (a7 = b7)) := by rw [e234]; exact eqL_spec (fun x hx y _ => eq287 x y (h4 x hx)) (by omega)
 simp only [F161, q1, q2, bindO_s, cndO_n, cndO_d, Prod.mk.injEq]
 by_cases h0 : a0 = b0
 ·by_cases h1 : a1 = b1
  ·by_cases h2 : a2 = b2
   ·by_cases h3 : a3 = b3
    ·by_cases h4 : a4 = b4
     ·by_cases h5 : a5 = b5
      ·by_cases h6 : a6 = b6 <;> by_cases h7 : a7 = b7 <;> simp [*]
      ·simp [*]
     ·simp [*]
    ·simp [*]
   ·simp [*]
  ·simp [*]
 ·simp [*]
theorem eq27 (x : Cls) (h : bCls x) : F27 (x, x) = some true := by
 obtain ⟨a0, a1, a2, a3, a4, a5, a6⟩ := x
 obtain ⟨⟨h1, _⟩, h2, h3, h4, h5⟩ := h
 simp only at h1 h2 h3 h4 h5
 have q1 : F79 (a0, a0) = some true := by rw [e79, eqL_spec (fun x _ y _ => eq159 x y) (by omega)]; simp
 have q2 : F80 (a4, a4) = some true := by rw [e80, eqL_spec (fun x _ y _ => rfl) (by omega)]; simp
 have q3 : F81 (a5, a5) = some true := by rw [e81, eqL_spec (fun x _ y _ => eq160 x y) (by omega)]; simp
 have q4 : F82 (a6, a6) = some true := by rw [e82, eqL_spec (fun x hx y _ => eq161 x y (h5 x hx)) (by omega)]; simp
 simp only [F27, q1, q2, q3, q4, bindO_s, cndO_n, cndO_d, cndO_t, if_true]
theorem all6 (core : ∀ c : Cls, small tg33 c → bCls c → ∃ n, F24 c = some n ∧ F26 c = some n) (x : tg33.Den) (hs : small tg33 x) : F6 x = some true := by
 obtain ⟨y, h1, h2, h3, h4⟩ := sz23 x hs
 obtain ⟨a0, a1, a2, a3, a4, a5, a6⟩ := x
 simp only [F6]
 rw [h1, bindO_s, cndO_d]
 by_cases hy : y < 0
 ·rw [if_pos hy]
 ·rw [if_neg hy]
  have hb := h4 (by omega)
  obtain ⟨n, c1, c2⟩ := core _ hs hb
  rw [cp25 _ hb]
  simp only [bindO_s]
  rw [c1]
  simp only [bindO_s]
  rw [c2]
  simp only [bindO_s]
  rw [eq27 _ hb]
  simp
end Go.Proofs.YtdpapeledldifaaGreat
end
section
namespace Go.TM
open Go.AM
section
variable {σ α β : Type}
def Sm (Re : σ → Option (List UInt8) → Prop) (r : Option (α × σ)) (m : Option (α × List UInt8)) : Prop :=
 ∃ v s, r = some (v, s) ∧ Re s (m.map (·.2)) ∧ ∀ v' l, m = some (v', l) → v = v'
variable {Re : σ → Option (List UInt8) → Prop}
theorem Sm.bind {r : Option (α × σ)} {m : Option (α × List UInt8)} {k : α × σ → Option (β × σ)} {k' : α → List UInt8 → Option (β × List UInt8)} (h : Sm Re r m)
  (hk : ∀ v s st, Re s st → (∀ l, st = some l → m = some (v, l)) → Sm Re (k (v, s)) (st.bind (k' v))) : Sm Re (bindO r k) (m.bind fun p => k' p.1 p.2) := by
 obtain ⟨v, s, rfl, h1, h2⟩ := h
 rw [bindO_s]
 have := hk v s (m.map (·.2)) h1 (by
  intro l hl
  cases m with
  | none => cases hl
  | some p => obtain ⟨a, b⟩ := p; simp only [Option.map_some, Option.some.injEq] at hl; subst hl; rw [h2 a b rfl])
 cases m with
 | none => exact this
 | some p =>
  obtain ⟨a, b⟩ := p
  have e := h2 a b rfl
  subst e
  exact this
theorem Sm.ret {s : σ} {st : Option (List UInt8)} (h : Re s st) (v : α) : Sm Re (some (v, s)) (st.bind fun l => some (v, l)) := by
 refine ⟨v, s, rfl, ?_, fun v' l hl => ?_⟩
 ·cases st with
  | none => exact h
  | some l => exact h
 ·cases st with
  | none => cases hl
  | some l => simp only [Option.bind_some, Option.some.injEq, Prod.mk.injEq] at hl; exact hl.1
def gRep (g : List UInt8 → Option (β × List UInt8)) : Nat → List UInt8 → Option (List β × List UInt8)
 | 0, l => some ([], l)
 | n + 1, l => (g l).bind fun p => (gRep g n p.2).bind fun q => some (p.1 :: q.1, q.2)
theorem gRep_len {g : List UInt8 → Option (β × List UInt8)} : ∀ (n : Nat) (l : List UInt8) (vs : List β) (l' : List UInt8), gRep g n l = some (vs, l') → vs.length = n
 | 0, l, vs, l', h => by simp only [gRep, Option.some.injEq, Prod.mk.injEq] at h; rw [← h.1]; rfl
 | n + 1, l, vs, l', h => by
  simp only [gRep] at h
  cases hg : g l with
  | none => rw [hg] at h; cases h
  | some p =>
   rw [hg] at h
   simp only [Option.bind_some] at h
   cases hr : gRep g n p.2 with
   | none => rw [hr] at h; cases h
   | some q =>
    rw [hr] at h
    simp only [Option.bind_some, Option.some.injEq, Prod.mk.injEq] at h
    rw [← h.1, List.length_cons, gRep_len n p.2 q.1 q.2 hr]
theorem gRep_all {g : List UInt8 → Option (β × List UInt8)} {P : β → Prop} (hg : ∀ l v l', g l = some (v, l') → P v) : ∀ (n : Nat) (l : List UInt8) (vs : List β) (l' : List UInt8), gRep g n l = some (vs, l') → ∀ v ∈ vs, P v
 | 0, l, vs, l', h => by simp only [gRep, Option.some.injEq, Prod.mk.injEq] at h; rw [← h.1]; simp
 | n + 1, l, vs, l', h => by
  simp only [gRep] at h
  cases hgl : g l with
  | none => rw [hgl] at h; cases h
  | some p =>
   rw [hgl] at h
   simp only [Option.bind_some] at h
   cases hr : gRep g n p.2 with
   | none => rw [hr] at h; cases h
   | some q =>
    rw [hr] at h
    simp only [Option.bind_some, Option.some.injEq, Prod.mk.injEq] at h
    rw [← h.1]
    intro v hv
    simp only [List.mem_cons] at hv
    rcases hv with rfl | hv
    ·exact hg l _ _ hgl
    ·exact gRep_all hg n p.2 q.1 q.2 hr v hv
theorem loop_sim {X Y : Type} {f : X → Option (X ⊕ Y)} (mk : List β → Nat → σ → X) (fin : List β → σ → Y) (n : Nat) (g : List UInt8 → Option (β × List UInt8))
  (hbad : ∀ out i s, i ≤ n → Re s none → f (mk out i s) = some (.inr (fin out s)))
  (hend : ∀ out s l, Re s (some l) → f (mk out n s) = some (.inr (fin out s)))
  (hstep : ∀ out i s l, i < n → out.length = i → Re s (some l) → ∃ v s', f (mk out i s) = some (.inl (mk (out ++ [v]) (i + 1) s')) ∧ Re s' ((g l).map (·.2)) ∧ ∀ v' l', g l = some (v', l') → v = v') :
  ∀ (out : List β) (i : Nat) (s : σ) (st : Option (List UInt8)), i ≤ n → (∀ l, st = some l → out.length = i) → Re s st →
   ∃ out' s', whileO f (mk out i s) = some (fin out' s') ∧ Re s' ((st.bind (gRep g (n - i))).map (·.2)) ∧ ∀ vs l', st.bind (gRep g (n - i)) = some (vs, l') → out' = out ++ vs := by
 intro out i s st hi
 generalize hm : n - i = m
 induction m generalizing out i s st with
 | zero =>
  intro ho h
  have : i = n := by omega
  subst this
  rw [whileO_eq]
  cases st with
  | none => rw [hbad out i s hi h]; exact ⟨out, s, rfl, h, fun _ _ h => by cases h⟩
  | some l =>
   rw [hend out s l h]
   exact ⟨out, s, rfl, h, fun vs l' h => by simp only [Option.bind_some, gRep, Option.some.injEq, Prod.mk.injEq] at h; simp [← h.1]⟩
 | succ m ih =>
  intro ho h
  rw [whileO_eq]
  cases st with
  | none => rw [hbad out i s hi h]; exact ⟨out, s, rfl, h, fun _ _ h => by cases h⟩
  | some l =>
   obtain ⟨v, s', h1, h2, h3⟩ := hstep out i s l (by omega) (ho l rfl) h
   rw [h1]
   obtain ⟨out', s'', q1, q2, q3⟩ := ih (out ++ [v]) (i + 1) s' ((g l).map (·.2)) (by omega) (by omega) (by intro l' hl; simp [ho l rfl]) h2
   refine ⟨out', s'', q1, ?_, fun vs l' hv => ?_⟩
   ·cases hg : g l with
    | none => rw [hg] at q2; simpa [gRep, hg] using q2
    | some p =>
     rw [hg] at q2
     simp only [Option.map_some, Option.bind_some] at q2
     simp only [Option.bind_some, gRep, hg]
     cases hr : gRep g m p.2 with
     | none => rw [hr] at q2; exact q2
     | some q => rw [hr] at q2; exact q2
   ·cases hg : g l with
    | none => simp [gRep, hg] at hv
    | some p =>
     obtain ⟨a, b⟩ := p
     have e := h3 a b hg
     subst e
     rw [hg] at q3
     simp only [Option.map_some, Option.bind_some] at q3
     simp only [Option.bind_some, gRep, hg] at hv
     cases hr : gRep g m b with
     | none => rw [hr] at hv; cases hv
     | some q =>
      rw [hr] at hv
      simp only [Option.bind_some, Option.some.injEq, Prod.mk.injEq] at hv
      rw [q3 q.1 q.2 hr, ← hv.1]
      simp
end
def g1 : List UInt8 → Option (Int × List UInt8)
 | [] => none
 | x :: l => some ((x.toNat : Int), l)
def g2 (l : List UInt8) : Option (Int × List UInt8) := (g1 l).bind fun p => (g1 p.2).bind fun q => some (p.1 * 256 + q.1, q.2)
def gT (n : Int) (l : List UInt8) : Option (List UInt8 × List UInt8) := if n ≤ l.length then some (l.take n.toNat, l.drop n.toNat) else none
theorem g1_ran {l l' : List UInt8} {v : Int} (h : g1 l = some (v, l')) : 0 ≤ v ∧ v ≤ 255 := by
 cases l with
 | nil => cases h
 | cons x l =>
  simp only [g1, Option.some.injEq, Prod.mk.injEq] at h
  have := x.toNat_lt
  omega
theorem g2_ran {l l' : List UInt8} {v : Int} (h : g2 l = some (v, l')) : 0 ≤ v ∧ v ≤ 65535 := by
 unfold g2 at h
 cases h1 : g1 l with
 | none => rw [h1] at h; cases h
 | some p =>
  rw [h1] at h
  simp only [Option.bind_some] at h
  cases h2 : g1 p.2 with
  | none => rw [h2] at h; cases h
  | some q =>
   rw [h2] at h
   simp only [Option.bind_some, Option.some.injEq, Prod.mk.injEq] at h
   have := g1_ran (l := l) (v := p.1) (l' := p.2) h1
   have := g1_ran (l := p.2) (v := q.1) (l' := q.2) h2
   omega
end Go.TM
end
section
namespace Go.Proofs.YtdpapeledldifaaGreat
open Go Go.AM Go.TM
def Re3 (s0 : List UInt8) (p : List UInt8 × Int × Bool) (st : Option (List UInt8)) : Prop :=
 p.1 = s0 ∧ 0 ≤ p.2.1 ∧ p.2.1 ≤ s0.length ∧ s0.length ≤ 900 ∧ (st = none → p.2.2 = true) ∧ ∀ l, st = some l → p.2.2 = false ∧ l = s0.drop p.2.1.toNat
def Re2 (p : List UInt8 × Bool) (st : Option (List UInt8)) : Prop :=
 p.1.length ≤ 900 ∧ (st = none → p.2 = true) ∧ ∀ l, st = some l → p.2 = false ∧ l = p.1
theorem wI {x : Int} (h1 : -9223372036854775808 ≤ x) (h2 : x ≤ 9223372036854775807) : IntKind.wrap .i64 x = x := AM.wrapI h1 h2
theorem Re3.bad {s0 : List UInt8} {p : List UInt8 × Int × Bool} {st : Option (List UInt8)} (h : Re3 s0 p st) : Re3 s0 (p.1, p.2.1, true) none := ⟨h.1, h.2.1, h.2.2.1, h.2.2.2.1, fun _ => rfl, fun _ h => by cases h⟩
theorem Re2.bad {p : List UInt8 × Bool} {st : Option (List UInt8)} (h : Re2 p st) : Re2 (p.1, true) none := ⟨h.1, fun _ => rfl, fun _ h => by cases h⟩
theorem s221 {s0 : List UInt8} (s : List UInt8 × Int × Bool) (st : Option (List UInt8)) (h : Re3 s0 s st) : Sm (Re3 s0) (F221 s) (st.bind g1) := by
 obtain ⟨o0, o1, o2⟩ := s
 obtain ⟨h1, h2, h3, h4, h5, h6⟩ := h
 simp only at h1 h2 h3 h5 h6
 subst h1
 cases st with
 | none =>
  have := h5 rfl
  subst this
  refine ⟨0, (o0, o1, true), rfl, ⟨rfl, h2, h3, h4, fun _ => rfl, fun _ h => by cases h⟩, fun _ _ h => by cases h⟩
 | some l =>
  obtain ⟨rfl, rfl⟩ := h6 l rfl
  simp only [F221, cndO_f, bindE_l, cndO_d]
  by_cases hl : (o0.length : Int) ≤ o1
  ·rw [if_pos hl]
   have : o0.drop o1.toNat = [] := List.drop_eq_nil_of_le (by omega)
   refine ⟨_, _, rfl, ?_, ?_⟩
   ·simp only [Option.bind_some, this, g1, Option.map_none]
    exact ⟨rfl, h2, h3, h4, fun _ => rfl, fun _ h => by cases h⟩
   ·intro v' l' hv
    simp [this, g1] at hv
  ·rw [if_neg hl]
   rw [wI (x := o1 + 1) (by omega) (by omega), wI (x := o1 + 1 - 1) (by omega) (by omega), show o1 + 1 - 1 = o1 by omega]
   have hn : o1.toNat < o0.length := by omega
   rw [grdO_d h2, atO_get hn]
   have hr := o0[o1.toNat].toNat_lt
   rw [wI (by omega) (by omega)]
   refine ⟨_, _, rfl, ?_, ?_⟩
   ·simp only [Option.bind_some, drop_cons hn, g1, Option.map_some]
    refine ⟨rfl, by simp only; omega, by simp only; omega, h4, (fun h => by cases h), fun l h => ⟨rfl, ?_⟩⟩
    simp only [Option.some.injEq] at h
    rw [← h]
    simp only
    rw [show (o1 + 1).toNat = o1.toNat + 1 by omega]
   ·intro v' l' hv
    simp only [Option.bind_some, drop_cons hn, g1, Option.some.injEq, Prod.mk.injEq] at hv
    exact hv.1
theorem s222 {s0 : List UInt8} (s : List UInt8 × Int × Bool) (st : Option (List UInt8)) (h : Re3 s0 s st) : Sm (Re3 s0) (F222 s) (st.bind g2) := by
 have e : st.bind g2 = (st.bind g1).bind fun p => (g1 p.2).bind fun q => some (p.1 * 256 + q.1, q.2) := by cases st <;> rfl
 rw [e]
 refine Sm.bind (k' := fun a l => (g1 l).bind fun q => some (a * 256 + q.1, q.2)) (s221 s st h) fun v s1 st1 h1 e1 => ?_
 have e : (st1.bind fun l => (g1 l).bind fun q => some (v * 256 + q.1, q.2)) = (st1.bind g1).bind fun q => some (v * 256 + q.1, q.2) := by cases st1 <;> rfl
 rw [e]
 refine Sm.bind (k' := fun a l => some (v * 256 + a, l)) (s221 s1 st1 h1) fun v2 s2 st2 h2 e2 => ?_
 cases st2 with
 | none => exact ⟨_, _, rfl, h2, fun _ _ h => by cases h⟩
 | some l2 =>
  have q2 := e2 l2 rfl
  cases st1 with
  | none => cases q2
  | some l1 =>
   have q1 := e1 l1 rfl
   cases st with
   | none => cases q1
   | some l =>
    have r1 := g1_ran (l := l) q1
    have r2 := g1_ran (l := l1) q2
    refine ⟨_, _, rfl, h2, fun v' l' hv => ?_⟩
    simp only [Option.bind_some, Option.some.injEq, Prod.mk.injEq] at hv
    rw [← hv.1]
    rw [wI (x := v * 256) (by omega) (by omega), wI (by omega) (by omega)]
theorem s219 {s0 : List UInt8} (n : Int) (s : List UInt8 × Int × Bool) (st : Option (List UInt8)) (h : Re3 s0 s st) (hn : ∀ l, st = some l → 0 ≤ n ∧ n ≤ 65535) : Sm (Re3 s0) (F219 (n, s)) (st.bind (gT n)) := by
 obtain ⟨o0, o1, o2⟩ := s
 obtain ⟨h1, h2, h3, h4, h5, h6⟩ := h
 simp only at h1 h2 h3 h5 h6
 subst h1
 cases st with
 | none =>
  have := h5 rfl
  subst this
  refine ⟨[], (o0, o1, true), rfl, ⟨rfl, h2, h3, h4, fun _ => rfl, fun _ h => by cases h⟩, fun _ _ h => by cases h⟩
 | some l =>
  obtain ⟨rfl, rfl⟩ := h6 l rfl
  obtain ⟨n0, n1⟩ := hn _ rfl
  simp only [F219, cndO_f, bindE_l, cndO_d]
  rw [wI (x := o1 + n) (by omega) (by omega), wI (x := o1 + n - n) (by omega) (by omega), show o1 + n - n = o1 by omega]
  by_cases hl : (o0.length : Int) < o1 + n
  ·rw [if_pos hl]
   refine ⟨_, _, rfl, ?_, ?_⟩
   ·have : ¬ n ≤ ((o0.drop o1.toNat).length : Int) := by simp only [List.length_drop]; omega
    simp only [Option.bind_some, gT, if_neg this, Option.map_none]
    exact ⟨rfl, h2, h3, h4, fun _ => rfl, fun _ h => by cases h⟩
   ·intro v' l' hv
    have : ¬ n ≤ ((o0.drop o1.toNat).length : Int) := by simp only [List.length_drop]; omega
    simp only [Option.bind_some, gT, if_neg this] at hv
    cases hv
  ·rw [if_neg hl]
   have hle : n ≤ ((o0.drop o1.toNat).length : Int) := by simp only [List.length_drop]; omega
   rw [grdO_and, grdO_and, grdO_d h2, grdO_d (by omega), grdO_d (by omega)]
   refine ⟨_, _, rfl, ?_, ?_⟩
   ·simp only [Option.bind_some, gT, if_pos hle, Option.map_some]
    refine ⟨rfl, by simp only; omega, by simp only; omega, h4, (fun h => by cases h), fun l h => ⟨rfl, ?_⟩⟩
    simp only [Option.some.injEq] at h
    rw [← h, List.drop_drop]
    simp only
    rw [show (o1 + n).toNat = o1.toNat + n.toNat by omega]
   ·intro v' l' hv
    simp only [Option.bind_some, gT, if_pos hle, Option.some.injEq, Prod.mk.injEq] at hv
    rw [← hv.1, show (o1 + n).toNat = o1.toNat + n.toNat by omega, List.drop_take]
    congr 1
    omega
theorem i57 (n : Int) (s : List UInt8 × Bool) (st : Option (List UInt8)) (h : Re2 s st) (hn : ∀ l, st = some l → 0 ≤ n) : Sm Re2 (F57 (n, s)) (st.bind (gT n)) := by
 obtain ⟨o0, o1⟩ := s
 obtain ⟨h4, h5, h6⟩ := h
 simp only at h4 h5 h6
 cases st with
 | none =>
  have := h5 rfl
  subst this
  refine ⟨[], (o0, true), rfl, ⟨h4, fun _ => rfl, fun _ h => by cases h⟩, fun _ _ h => by cases h⟩
 | some l =>
  obtain ⟨rfl, rfl⟩ := h6 l rfl
  have n0 := hn _ rfl
  simp only [F57, cndO_f, bindE_l, cndO_d]
  by_cases hl : (l.length : Int) < n
  ·rw [if_pos hl]
   refine ⟨_, _, rfl, ?_, ?_⟩
   ·simp only [Option.bind_some, gT, if_neg (show ¬ n ≤ (l.length : Int) by omega), Option.map_none]
    exact ⟨h4, fun _ => rfl, fun _ h => by cases h⟩
   ·intro v' l' hv
    simp only [Option.bind_some, gT, if_neg (show ¬ n ≤ (l.length : Int) by omega)] at hv
    cases hv
  ·rw [if_neg hl]
   have hle : n ≤ (l.length : Int) := by omega
   rw [grdO_and, grdO_d n0, grdO_d hle, grdO_and, grdO_and, grdO_d n0, grdO_d hle, grdO_d (Int.le_refl _)]
   have et : List.take (Int.toNat (l.length : Int)) l = l := by rw [show Int.toNat (l.length : Int) = l.length by omega, List.take_length]
   refine ⟨_, _, rfl, ?_, ?_⟩
   ·simp only [Option.bind_some, gT, if_pos hle, Option.map_some]
    refine ⟨by rw [et]; simp only [List.length_drop]; omega, (fun h => by cases h), fun l' h => ⟨rfl, ?_⟩⟩
    simp only [Option.some.injEq] at h
    rw [← h, et]
   ·intro v' l' hv
    simp only [Option.bind_some, gT, if_pos hle, Option.some.injEq, Prod.mk.injEq] at hv
    rw [← hv.1, List.drop_zero]
theorem i59 (s : List UInt8 × Bool) (st : Option (List UInt8)) (h : Re2 s st) : Sm Re2 (F59 s) (st.bind g1) := by
 obtain ⟨v, s1, e1, e2, e3⟩ := i57 1 s st h fun _ _ => by omega
 obtain ⟨o0, o1⟩ := s
 obtain ⟨p0, p1⟩ := s1
 simp only [F59]
 rw [e1, bindO_s]
 simp only
 cases st with
 | none =>
  have := e2.2.1 rfl
  simp only at this
  subst this
  exact ⟨_, _, rfl, e2, fun _ _ h => by cases h⟩
 | some l =>
  cases l with
  | nil =>
   have hb := e2.2.1 (by simp [gT])
   simp only at hb
   subst hb
   refine ⟨_, _, rfl, ?_, fun _ _ h => by simp [g1] at h⟩
   simpa [gT, g1] using e2
  | cons x l =>
   have hg : (some (x :: l)).bind (gT 1) = some ([x], l) := by simp [gT]; omega
   rw [hg] at e2 e3
   have := e3 _ _ rfl
   subst this
   have hb := (e2.2.2 l rfl).1
   simp only at hb
   subst hb
   have hr := x.toNat_lt
   simp only [cndO_f, atO, List.getElem?_cons_zero, Int.toNat_zero]
   rw [wI (by omega) (by omega)]
   exact ⟨_, _, rfl, e2, fun v' l' hv => by simp only [Option.bind_some, g1, Option.some.injEq, Prod.mk.injEq] at hv; exact hv.1⟩
theorem i61 (s : List UInt8 × Bool) (st : Option (List UInt8)) (h : Re2 s st) : Sm Re2 (F61 s) (st.bind g2) := by
 have e : st.bind g2 = (st.bind g1).bind fun p => (g1 p.2).bind fun q => some (p.1 * 256 + q.1, q.2) := by cases st <;> rfl
 rw [e]
 refine Sm.bind (k' := fun a l => (g1 l).bind fun q => some (a * 256 + q.1, q.2)) (i59 s st h) fun v s1 st1 h1 e1 => ?_
 have e : (st1.bind fun l => (g1 l).bind fun q => some (v * 256 + q.1, q.2)) = (st1.bind g1).bind fun q => some (v * 256 + q.1, q.2) := by cases st1 <;> rfl
 rw [e]
 refine Sm.bind (k' := fun a l => some (v * 256 + a, l)) (i59 s1 st1 h1) fun v2 s2 st2 h2 e2 => ?_
 cases st2 with
 | none => exact ⟨_, _, rfl, h2, fun _ _ h => by cases h⟩
 | some l2 =>
  have q2 := e2 l2 rfl
  cases st1 with
  | none => cases q2
  | some l1 =>
   have q1 := e1 l1 rfl
   cases st with
   | none => cases q1
   | some l =>
    have r1 := g1_ran (l := l) q1
    have r2 := g1_ran (l := l1) q2
    refine ⟨_, _, rfl, h2, fun v' l' hv => ?_⟩
    simp only [Option.bind_some, Option.some.injEq, Prod.mk.injEq] at hv
    rw [← hv.1]
    rw [wI (x := 256 * v) (by omega) (by omega), wI (by omega) (by omega)]
    omega
end Go.Proofs.YtdpapeledldifaaGreat
end
section
namespace Go.TM
open Go.AM
section
variable {σ α β R Y : Type}
theorem bindE_bindO {r : Option α} {k : α → Option (Y ⊕ R)} {k2 : Y → Option R} : bindE (bindO r k) k2 = bindO r fun x => bindE (k x) k2 := by cases r <;> rfl
theorem bindE_cut {c : Prop} [Decidable c] (A B : Y) (k : Y → Option R) : bindE (cndO (decide c) (some (.inl A)) (some (.inl B))) k = k (if c then A else B) := by by_cases h : c <;> simp [h]
variable {Re : σ → Option (List UInt8) → Prop}
theorem Sm.step {F : Option (α × σ)} {g : List UInt8 → Option (α × List UInt8)} {st : Option (List UInt8)} {k : α × σ → Option (β × σ)} {k' : α → List UInt8 → Option (β × List UInt8)}
  (hF : Sm Re F (st.bind g)) (hk : ∀ v s' st', Re s' st' → (∀ l', st' = some l' → ∃ l, st = some l ∧ g l = some (v, l')) → Sm Re (k (v, s')) (st'.bind (k' v))) :
  Sm Re (bindO F k) (st.bind fun l => (g l).bind fun p => k' p.1 p.2) := by
 have e : (st.bind fun l => (g l).bind fun p => k' p.1 p.2) = (st.bind g).bind fun p => k' p.1 p.2 := by cases st <;> rfl
 rw [e]
 refine Sm.bind hF fun v s' st' h1 h2 => hk v s' st' h1 fun l' hl => ?_
 have := h2 l' hl
 cases st with
 | none => cases this
 | some l => exact ⟨l, rfl, this⟩
theorem cut_bind {c : Prop} [Decidable c] (st : Option (List UInt8)) (M : List UInt8 → Option (β × List UInt8)) : (st.bind fun l => if c then none else M l) = (if c then none else st).bind M := by
 by_cases h : c <;> cases st <;> simp [h]
theorem loop_begin {X Y : Type} {f : X → Option (X ⊕ Y)} (mk : List β → Nat → σ → X) (fin : List β → σ → Y) (n : Nat) (g : List UInt8 → Option (β × List UInt8)) (s : σ) (st : Option (List UInt8)) (h : Re s st)
  (hbad : ∀ out i s, Re s none → f (mk out i s) = some (.inr (fin out s)))
  (hg : ∀ l, st = some l → (∀ out s l, Re s (some l) → f (mk out n s) = some (.inr (fin out s))) ∧
   ∀ out i s l, i < n → out.length = i → Re s (some l) → ∃ v s', f (mk out i s) = some (.inl (mk (out ++ [v]) (i + 1) s')) ∧ Re s' ((g l).map (·.2)) ∧ ∀ v' l', g l = some (v', l') → v = v') :
   ∃ out' s', whileO f (mk [] 0 s) = some (fin out' s') ∧ Re s' ((st.bind (gRep g n)).map (·.2)) ∧ ∀ vs l', st.bind (gRep g n) = some (vs, l') → out' = vs := by
 cases st with
 | none =>
  rw [whileO_eq, hbad [] 0 s h]
  exact ⟨[], s, rfl, h, fun _ _ h => by cases h⟩
 | some l =>
  obtain ⟨h1, h2⟩ := hg l rfl
  obtain ⟨o, s', q1, q2, q3⟩ := loop_sim mk fin n g (fun out i s _ h => hbad out i s h) h1 h2 [] 0 s (some l) (Nat.zero_le _) (fun _ _ => rfl) h
  exact ⟨o, s', q1, q2, fun vs l' h => by simpa using q3 vs l' h⟩
theorem Sm.loop {X Y γ : Type} {f : X → Option (X ⊕ (Y ⊕ (γ × σ)))} (mk : List β → Nat → σ → X) (fin : List β → σ → Y) (n : Nat) (g : List UInt8 → Option (β × List UInt8)) {s : σ} {st : Option (List UInt8)} (h : Re s st)
  {k : Y → Option (γ × σ)} {k' : List β → List UInt8 → Option (γ × List UInt8)} {x0 : X} (hx : x0 = mk [] 0 s)
  (hbad : ∀ out i s, Re s none → f (mk out i s) = some (.inr (.inl (fin out s))))
  (hg : ∀ l, st = some l → (∀ out s l, Re s (some l) → f (mk out n s) = some (.inr (.inl (fin out s)))) ∧
   ∀ out i s l, i < n → out.length = i → Re s (some l) → ∃ v s', f (mk out i s) = some (.inl (mk (out ++ [v]) (i + 1) s')) ∧ Re s' ((g l).map (·.2)) ∧ ∀ v' l', g l = some (v', l') → v = v')
  (hk : ∀ out s' st', Re s' st' → Sm Re (k (fin out s')) (st'.bind (k' out))) :
  Sm Re (bindE (whileO f x0) k) (st.bind fun l => (gRep g n l).bind fun p => k' p.1 p.2) := by
 obtain ⟨o, s', q1, q2, q3⟩ := loop_begin mk (fun out s => (.inl (fin out s) : Y ⊕ (γ × σ))) n g s st h hbad hg
 rw [hx, q1, bindE_l]
 have := hk o s' _ q2
 have e : (st.bind fun l => (gRep g n l).bind fun p => k' p.1 p.2) = (st.bind (gRep g n)).bind fun p => k' p.1 p.2 := by cases st <;> rfl
 rw [e]
 cases hm : st.bind (gRep g n) with
 | none => rw [hm] at this; exact this
 | some p =>
  rw [hm] at this
  rw [q3 p.1 p.2 hm] at this ⊢
  exact this
theorem Sm.one {X Y : Type} {r : Option (β × σ)} {m : Option (β × List UInt8)} {q : Option (X ⊕ Y)} {mk : β → σ → X} (h : Sm Re r m) (hq : ∀ v s, r = some (v, s) → q = some (.inl (mk v s))) :
  ∃ v s', q = some (.inl (mk v s')) ∧ Re s' (m.map (·.2)) ∧ ∀ v' l', m = some (v', l') → v = v' := by
 obtain ⟨v, s, h1, h2, h3⟩ := h
 exact ⟨v, s, hq v s h1, h2, h3⟩
end
end Go.TM
namespace Go.Proofs.YtdpapeledldifaaGreat
open Go Go.AM Go.TM
theorem Re3.cut {s0 a : List UInt8} {b : Int} {t : Bool} {st : Option (List UInt8)} (c : Prop) [Decidable c] (h : Re3 s0 (a, b, t) st) : Re3 s0 (a, b, if c then true else t) (if c then none else st) := by
 by_cases hc : c
 ·simp only [if_pos hc]; exact h.bad
 ·simp only [if_neg hc]; exact h
def gEnt (t : Int) (l : List UInt8) : Option (Cst × List UInt8) :=
 if t = 1 then (g1 l).bind fun p => (gT p.1 p.2).bind fun q => some ((1, q.1, 0, 0), q.2)
 else if t = 2 then (g2 l).bind fun p => some ((2, [], p.1, 0), p.2)
 else if t = 3 ∨ t = 4 ∨ t = 5 ∨ t = 6 then (g2 l).bind fun p => (g2 p.2).bind fun q => some ((t, [], p.1, q.1), q.2)
 else none
def gEntry (l : List UInt8) : Option (Cst × List UInt8) := (g1 l).bind fun p => gEnt p.1 p.2
theorem s280 {s0 : List UInt8} (s : List UInt8 × Int × Bool) (st : Option (List UInt8)) (h : Re3 s0 s st) : Sm (Re3 s0) (F280 s) (st.bind gEntry) := by
 obtain ⟨o0, o1, o2⟩ := s
 simp only [F280]
 refine Sm.step (s221 _ st h) (k' := gEnt) fun v ⟨a, b, c⟩ st1 h1 e1 => ?_
 simp only [cndO_d, bindE_if]
 by_cases t1 : v = 1
 ·subst t1
  simp only [gEnt, if_true, bindE_bindO, bindE_l]
  refine Sm.step (s221 _ st1 h1) (k' := fun n l => (gT n l).bind fun q => some ((1, q.1, 0, 0), q.2)) fun n ⟨a2, b2, c2⟩ st2 h2 e2 => ?_
  simp only [bindE_bindO, bindE_l]
  refine Sm.step (s219 n _ st2 h2 fun l hl => ?_) (k' := fun q l => some ((1, q, 0, 0), l)) fun n ⟨a3, b3, c3⟩ st3 h3 e3 => Sm.ret h3 _
  obtain ⟨_, _, hg⟩ := e2 l hl
  have := g1_ran hg
  omega
 ·by_cases t2 : v = 2
  ·subst t2
   simp only [gEnt, t1, if_false, if_true, bindE_bindO, bindE_l]
   exact Sm.step (s222 _ st1 h1) (k' := fun n l => some ((2, [], n, 0), l)) fun n ⟨a2, b2, c2⟩ st2 h2 e2 => Sm.ret h2 _
  ·by_cases t3 : v = 3 ∨ v = 4 ∨ v = 5 ∨ v = 6
   ·have two : Sm (Re3 s0) (bindO (F222 (a, b, c)) fun x => match x with
      | (y4, y5, y6, y7) => bindO (F222 (y5, y6, y7)) fun x => match x with
       | (y8, y9, y10, y11) => some ((v, ([] : List UInt8), y4, y8), y9, y10, y11)) (st1.bind fun l => (g2 l).bind fun p => (g2 p.2).bind fun q => some ((v, [], p.1, q.1), q.2)) :=
     Sm.step (s222 _ st1 h1) (k' := fun n l => (g2 l).bind fun q => some ((v, [], n, q.1), q.2)) fun n ⟨a2, b2, c2⟩ st2 h2 e2 =>
      Sm.step (s222 _ st2 h2) (k' := fun q l => some ((v, [], n, q), l)) fun n ⟨a3, b3, c3⟩ st3 h3 e3 => Sm.ret h3 _
    rcases t3 with rfl | rfl | rfl | rfl <;>
    ·simp only [gEnt, Int.reduceEq, ↓reduceIte, bindE_bindO, bindE_l, cndO_t, decide_true, or_true, true_or]
     exact two
   ·have h3 : ¬ v = 3 := fun h => t3 (.inl h)
    have h4 : ¬ v = 4 := fun h => t3 (.inr (.inl h))
    have h5 : ¬ v = 5 := fun h => t3 (.inr (.inr (.inl h)))
    have h6 : ¬ v = 6 := fun h => t3 (.inr (.inr (.inr h)))
    simp only [t1, t2, h3, h4, h5, h6, ↓reduceIte, bindE_l, cndO_f, decide_false]
    refine ⟨_, _, rfl, ?_, ?_⟩
    ·cases st1 <;> simp only [Option.bind_none, Option.bind_some, gEnt, t1, t2, h3, h4, h5, h6, ↓reduceIte, or_false] <;> exact h1.bad
    ·intro _ _ h; cases st1 <;> simp only [Option.bind_none, Option.bind_some, gEnt, t1, t2, h3, h4, h5, h6, ↓reduceIte, or_false] at h <;> cases h
theorem i60 (s : List UInt8 × Bool) (st : Option (List UInt8)) (h : Re2 s st) : Sm Re2 (F60 s) (st.bind gEntry) := by
 obtain ⟨o0, o1⟩ := s
 simp only [F60]
 refine Sm.step (i59 _ st h) (k' := gEnt) fun v ⟨a, c⟩ st1 h1 e1 => ?_
 simp only [cndO_d, bindE_if]
 by_cases t1 : v = 1
 ·subst t1
  simp only [gEnt, if_true, bindE_bindO, bindE_l]
  refine Sm.step (i59 _ st1 h1) (k' := fun n l => (gT n l).bind fun q => some ((1, q.1, 0, 0), q.2)) fun n ⟨a2, c2⟩ st2 h2 e2 => ?_
  simp only [bindE_bindO, bindE_l]
  refine Sm.step (i57 n _ st2 h2 fun l hl => ?_) (k' := fun q l => some ((1, q, 0, 0), l)) fun n ⟨a3, c3⟩ st3 h3 e3 => Sm.ret h3 _
  obtain ⟨_, _, hg⟩ := e2 l hl
  have := g1_ran hg
  omega
 ·by_cases t2 : v = 2
  ·subst t2
   simp only [gEnt, t1, if_false, if_true, bindE_bindO, bindE_l]
   exact Sm.step (i61 _ st1 h1) (k' := fun n l => some ((2, [], n, 0), l)) fun n ⟨a2, c2⟩ st2 h2 e2 => Sm.ret h2 _
  ·by_cases t3 : v = 3 ∨ v = 4 ∨ v = 5 ∨ v = 6
   ·have two : Sm Re2 (bindO (F61 (a, c)) fun x => match x with
      | (y4, y5, y7) => bindO (F61 (y5, y7)) fun x => match x with
       | (y8, y9, y11) => some ((v, ([] : List UInt8), y4, y8), y9, y11)) (st1.bind fun l => (g2 l).bind fun p => (g2 p.2).bind fun q => some ((v, [], p.1, q.1), q.2)) :=
     Sm.step (i61 _ st1 h1) (k' := fun n l => (g2 l).bind fun q => some ((v, [], n, q.1), q.2)) fun n ⟨a2, c2⟩ st2 h2 e2 =>
      Sm.step (i61 _ st2 h2) (k' := fun q l => some ((v, [], n, q), l)) fun n ⟨a3, c3⟩ st3 h3 e3 => Sm.ret h3 _
    rcases t3 with rfl | rfl | rfl | rfl <;>
    ·simp only [gEnt, Int.reduceEq, ↓reduceIte, bindE_bindO, bindE_l, cndO_t, decide_true, or_true, true_or]
     exact two
   ·have h3 : ¬ v = 3 := fun h => t3 (.inl h)
    have h4 : ¬ v = 4 := fun h => t3 (.inr (.inl h))
    have h5 : ¬ v = 5 := fun h => t3 (.inr (.inr (.inl h)))
    have h6 : ¬ v = 6 := fun h => t3 (.inr (.inr (.inr h)))
    simp only [t1, t2, h3, h4, h5, h6, ↓reduceIte, bindE_l, cndO_f, decide_false]
    refine ⟨_, _, rfl, ?_, ?_⟩
    ·cases st1 <;> simp only [Option.bind_none, Option.bind_some, gEnt, t1, t2, h3, h4, h5, h6, ↓reduceIte, or_false] <;> exact h1.bad
    ·intro _ _ h; cases st1 <;> simp only [Option.bind_none, Option.bind_some, gEnt, t1, t2, h3, h4, h5, h6, ↓reduceIte, or_false] at h <;> cases h
def gMany {β : Type} (most : Int) (g : List UInt8 → Option (β × List UInt8)) (l : List UInt8) : Option (List β × List UInt8) :=
 (g1 l).bind fun p => if most < p.1 then none else gRep g p.1.toNat p.2
theorem s220 {s0 : List UInt8} (s : List UInt8 × Int × Bool) (st : Option (List UInt8)) (h : Re3 s0 s st) : Sm (Re3 s0) (F220 s) (st.bind (gMany 60 gEntry)) := by
 obtain ⟨o0, o1, o2⟩ := s
 simp only [F220]
 refine Sm.step (s221 _ st h) (k' := fun n l => if 60 < n then none else gRep gEntry n.toNat l) fun v ⟨a, b, c⟩ st1 h1 e1 => ?_
 simp only [bindE_cut]
 rw [show (if (60 : Int) < v then (([] : List Cst), v, a, b, true) else ([], v, a, b, c)) = ([], v, a, b, if 60 < v then true else c) by split <;> rfl]
 simp only
 rw [cut_bind]
 have h2 := h1.cut (60 < v)
 have e : ((if 60 < v then none else st1).bind fun l => gRep gEntry v.toNat l) = (if 60 < v then none else st1).bind fun l => (gRep gEntry v.toNat l).bind fun p => some (p.1, p.2) := by
  congr 1; funext l; cases gRep gEntry v.toNat l <;> rfl
 rw [e]
 refine Sm.loop (fun out i s => (out, v, (i : Int), s)) (fun out s => (out, s)) v.toNat gEntry h2 (k' := fun p l => some (p, l)) rfl ?_ ?_ ?_
 ·intro out i ⟨a, b, c⟩ hs
  have := hs.2.2.2.2.1 rfl
  simp only at this
  subst this
  by_cases hi : (i : Int) < v <;> simp only [hi, decide_true, decide_false, cndO_t, cndO_f, Bool.not_true, bindE_r]
 ·intro l hl
  have hv : 0 ≤ v ∧ v ≤ 60 := by
   split at hl
   ·cases hl
   ·obtain ⟨_, _, hg⟩ := e1 l hl
    have := g1_ran hg
    omega
  refine ⟨fun out ⟨a, b, c⟩ l hs => ?_, fun out i ⟨a, b, c⟩ l hi ho hs => ?_⟩
  ·have hi : ¬ ((v.toNat : Int) < v) := by omega
   simp only [hi, decide_false, cndO_f, bindE_r]
  ·have hi' : (i : Int) < v := by omega
   have hc := (hs.2.2.2.2.2 l rfl).1
   simp only at hc
   subst hc
   obtain ⟨w, ⟨a2, b2, c2⟩, r1, r2, r3⟩ := s280 (a, b, false) (some l) hs
   simp only [hi', decide_true, cndO_t, Bool.not_false, bindE_l, r1, bindO_s]
   rw [grdO_and, grdO_d (by omega), grdO_d (by omega), wI (by omega) (by omega)]
   exact ⟨w, _, rfl, r2, r3⟩
 ·intro out ⟨a, b, c⟩ st' hs
  exact Sm.ret hs _
end Go.Proofs.YtdpapeledldifaaGreat
end
