/- Part 26 of the proof of FnTidyAll; no condition. -/
import Derived.Test.YtmjlecabpbiigaaGreatX24
import Derived.Test.YtmjlecabpbiigaaGreatProg
open Option renaming some -> U
open Decidable renaming decide -> aa
open Bool renaming true -> ae
open Bool renaming false -> ag
open Option renaming none -> aj
open Sum renaming inr -> an
open Sum renaming inl -> ao
open List renaming length -> au
open Int renaming toNat -> aw
open List renaming drop -> cU
open List renaming take -> de
set_option autoImplicit true
set_option relaxedAutoImplicit true
set_option linter.all false
namespace Go.Proofs.YtmjlecabpbiigaaGreat
section
open Go.AM
set_option maxRecDepth 100000
def Co:List (Nat×TI):=[
 (2,⟨.int .i64,1,8,[.i .i64 0],ae⟩),
 (3,⟨.int .i64,1,8,[.i .i64 0],ae⟩),
 (4,⟨.bool,1,1,[.b ag],ae⟩),
 (5,⟨.int .u8,1,1,[.i .u8 0],ae⟩),
 (6,⟨.int .u8,1,1,[.i .u8 0],ae⟩),
 (7,⟨.struct [(2,0),(3,1),(4,2),(6,3)],4,24,[.i .i64 0,.i .i64 0,.b ag,.i .u8 0],ae⟩),
 (8,⟨.struct [(2,0),(3,1),(4,2),(6,3)],4,24,[.i .i64 0,.i .i64 0,.b ag,.i .u8 0],ae⟩),
 (9,⟨.str,1,16,[.s []],ae⟩),
 (10,⟨.str,1,16,[.s []],ae⟩),
 (11,⟨.str,1,16,[.s []],ae⟩),
 (12,⟨.int .u64,1,8,[.i .u64 0],ae⟩),
 (15,⟨.ptr,1,8,[.nilp],ae⟩),
 (16,⟨.ptr,1,8,[.nilp],ae⟩),
 (17,⟨.ptr,1,8,[.nilp],ae⟩),
 (21,⟨.int .i32,1,4,[.i .i32 0],ae⟩),
 (22,⟨.slice 5,1,24,[.nil],ae⟩),
 (23,⟨.slice 30,1,24,[.nil],ae⟩),
 (27,⟨.slice 40,1,24,[.nil],ae⟩),
 (28,⟨.slice 57,1,24,[.nil],ae⟩),
 (29,⟨.struct [(27,0),(28,1),(3,2)],3,56,[.nil,.nil,.i .i64 0],ae⟩),
 (30,⟨.struct [(27,0),(28,1),(3,2)],3,56,[.nil,.nil,.i .i64 0],ae⟩),
 (31,⟨.slice 65,1,24,[.nil],ae⟩),
 (32,⟨.slice 3,1,24,[.nil],ae⟩),
 (33,⟨.slice 68,1,24,[.nil],ae⟩),
 (34,⟨.slice 72,1,24,[.nil],ae⟩),
 (35,⟨.struct [(31,0),(3,1),(3,2),(3,3),(32,4),(33,5),(34,6)],7,120,[.nil,.i .i64 0,.i .i64 0,.i .i64 0,.nil,.nil,.nil],ae⟩),
 (36,⟨.struct [(31,0),(3,1),(3,2),(3,3),(32,4),(33,5),(34,6)],7,120,[.nil,.i .i64 0,.i .i64 0,.i .i64 0,.nil,.nil,.nil],ae⟩),
 (40,⟨.struct [(9,0),(9,1)],2,32,[.s [],.s []],ae⟩),
 (44,⟨.slice 147,1,24,[.nil],ae⟩),
 (45,⟨.slice 238,1,24,[.nil],ae⟩),
 (46,⟨.slice 240,1,24,[.nil],ae⟩),
 (47,⟨.struct [(23,0),(44,1),(45,2),(46,3)],4,96,[.nil,.nil,.nil,.nil],ae⟩),
 (48,⟨.struct [(23,0),(44,1),(45,2),(46,3)],4,96,[.nil,.nil,.nil,.nil],ae⟩),
 (52,⟨.ptr,1,8,[.nilp],ae⟩),
 (57,⟨.struct [(9,0),(3,1)],2,24,[.s [],.i .i64 0],ae⟩),
 (58,⟨.ptr,1,8,[.nilp],ae⟩),
 (60,⟨.struct [(9,0),(4,1)],2,24,[.s [],.b ag],ae⟩),
 (65,⟨.struct [(3,0),(9,1),(3,2),(3,3)],4,40,[.i .i64 0,.s [],.i .i64 0,.i .i64 0],ae⟩),
 (68,⟨.struct [(3,0),(3,1),(3,2)],3,24,[.i .i64 0,.i .i64 0,.i .i64 0],ae⟩),
 (69,⟨.slice 100,1,24,[.nil],ae⟩),
 (70,⟨.slice 103,1,24,[.nil],ae⟩),
 (72,⟨.struct [(3,0),(3,1),(3,2),(3,3),(3,4),(9,5),(69,6),(70,7)],8,104,[.i .i64 0,.i .i64 0,.i .i64 0,.i .i64 0,.i .i64 0,.s [],.nil,.nil],ae⟩),
 (86,⟨.slice 9,1,24,[.nil],ae⟩),
 (90,⟨.struct [(22,0),(3,1)],2,32,[.nil,.i .i64 0],ae⟩),
 (93,⟨.ptr,1,8,[.nilp],ae⟩),
 (95,⟨.struct [(9,0),(3,1),(4,2)],3,32,[.s [],.i .i64 0,.b ag],ae⟩),
 (100,⟨.struct [(3,0),(3,1),(3,2),(3,3)],4,32,[.i .i64 0,.i .i64 0,.i .i64 0,.i .i64 0],ae⟩),
 (101,⟨.slice 136,1,24,[.nil],ae⟩),
 (103,⟨.struct [(3,0),(101,1),(101,2)],3,56,[.i .i64 0,.nil,.nil],ae⟩),
 (112,⟨.slice 118,1,24,[.nil],ae⟩),
 (118,⟨.struct [(3,0),(3,1),(3,2)],3,24,[.i .i64 0,.i .i64 0,.i .i64 0],ae⟩),
 (136,⟨.struct [(3,0),(3,1)],2,16,[.i .i64 0,.i .i64 0],ae⟩),
 (143,⟨.slice 243,1,24,[.nil],ae⟩),
 (144,⟨.slice 245,1,24,[.nil],ae⟩),
 (145,⟨.slice 247,1,24,[.nil],ae⟩),
 (147,⟨.struct [(9,0),(3,1),(36,2),(3,9),(32,10),(3,11),(3,12),(143,13),(144,14),(145,15)],16,264,[.s [],.i .i64 0,.nil,.i .i64 0,.i .i64 0,.i .i64 0,.nil,.nil,.nil,.i .i64 0,.nil,.i .i64 0,.i .i64 0,.nil,.nil,.nil],ae⟩),
 (149,⟨.slice 86,1,24,[.nil],ae⟩),
 (150,⟨.slice 28,1,24,[.nil],ae⟩),
 (197,⟨.ptr,1,8,[.nilp],ae⟩),
 (199,⟨.struct [(52,0),(9,1),(9,2),(9,3),(3,4),(9,5)],6,80,[.nilp,.s [],.s [],.s [],.i .i64 0,.s []],ae⟩),
 (203,⟨.ptr,1,8,[.nilp],ae⟩),
 (205,⟨.struct [(36,0),(4,7)],8,128,[.nil,.i .i64 0,.i .i64 0,.i .i64 0,.nil,.nil,.nil,.b ag],ae⟩),
 (213,⟨.ptr,1,8,[.nilp],ae⟩),
 (221,⟨.int .u32,1,4,[.i .u32 0],ae⟩),
 (238,⟨.struct [(3,0),(9,1),(3,2)],3,32,[.i .i64 0,.s [],.i .i64 0],ae⟩),
 (240,⟨.struct [(9,0),(32,1),(3,2)],3,48,[.s [],.nil,.i .i64 0],ae⟩),
 (243,⟨.struct [(3,0),(3,1)],2,16,[.i .i64 0,.i .i64 0],ae⟩),
 (245,⟨.struct [(9,0),(9,1),(3,2),(3,3)],4,48,[.s [],.s [],.i .i64 0,.i .i64 0],ae⟩),
 (247,⟨.struct [(3,0),(3,1)],2,16,[.i .i64 0,.i .i64 0],ae⟩)]
def T:Nat->TI:=nh Co
abbrev bC (n:Nat)(x:TI):Prop:=∃i z d,FQ Tryz.prog n x i z d
def Pq:bC 2 ⟨.int .i64,1,8,[.i .i64 0],ae⟩:=⟨_,_,_,⟨Tryz.type2,rfl,rfl,rfl,rfl,rfl,rfl,rfl,Tryz.underlying2,rfl,rfl,(fun _=>rfl),(fun h=>by cases h),rfl⟩⟩
def Pr:bC 3 ⟨.int .i64,1,8,[.i .i64 0],ae⟩:=⟨_,_,_,⟨Tryz.type3,rfl,rfl,rfl,rfl,rfl,rfl,rfl,Tryz.underlying3,rfl,rfl,(fun _=>rfl),(fun h=>by cases h),rfl⟩⟩
def Ps:bC 4 ⟨.bool,1,1,[.b ag],ae⟩:=⟨_,_,_,⟨Tryz.type4,rfl,rfl,rfl,rfl,rfl,rfl,rfl,Tryz.underlying4,rfl,rfl,(fun _=>rfl),(fun h=>by cases h),rfl⟩⟩
def Pt:bC 5 ⟨.int .u8,1,1,[.i .u8 0],ae⟩:=⟨_,_,_,⟨Tryz.type5,rfl,rfl,rfl,rfl,rfl,rfl,rfl,Tryz.underlying5,rfl,rfl,(fun _=>rfl),(fun h=>by cases h),rfl⟩⟩
def Pu:bC 6 ⟨.int .u8,1,1,[.i .u8 0],ae⟩:=⟨_,_,_,⟨Tryz.type6,rfl,rfl,rfl,rfl,rfl,rfl,rfl,Tryz.underlying6,rfl,rfl,(fun _=>rfl),(fun h=>by cases h),rfl⟩⟩
def Pv:bC 7 ⟨.struct [(2,0),(3,1),(4,2),(6,3)],4,24,[.i .i64 0,.i .i64 0,.b ag,.i .u8 0],ae⟩:=⟨_,_,_,⟨Tryz.type7,rfl,rfl,rfl,rfl,rfl,rfl,rfl,Tryz.underlying7,⟨_,rfl,rfl,by simp⟩,rfl,(fun h=>by cases h),(fun _=>⟨by kernel_rfl,rfl⟩),rfl⟩⟩
def Pw:bC 8 ⟨.struct [(2,0),(3,1),(4,2),(6,3)],4,24,[.i .i64 0,.i .i64 0,.b ag,.i .u8 0],ae⟩:=⟨_,_,_,⟨Tryz.type8,rfl,rfl,rfl,rfl,rfl,rfl,rfl,Tryz.underlying8,⟨_,rfl,rfl,by simp⟩,rfl,(fun h=>by cases h),(fun _=>⟨by kernel_rfl,rfl⟩),rfl⟩⟩
def Px:bC 9 ⟨.str,1,16,[.s []],ae⟩:=⟨_,_,_,⟨Tryz.type9,rfl,rfl,rfl,rfl,rfl,rfl,rfl,Tryz.underlying9,rfl,rfl,(fun _=>rfl),(fun h=>by cases h),rfl⟩⟩
def Py:bC 10 ⟨.str,1,16,[.s []],ae⟩:=⟨_,_,_,⟨Tryz.type10,rfl,rfl,rfl,rfl,rfl,rfl,rfl,Tryz.underlying10,rfl,rfl,(fun _=>rfl),(fun h=>by cases h),rfl⟩⟩
def Pz:bC 11 ⟨.str,1,16,[.s []],ae⟩:=⟨_,_,_,⟨Tryz.type11,rfl,rfl,rfl,rfl,rfl,rfl,rfl,Tryz.underlying11,rfl,rfl,(fun _=>rfl),(fun h=>by cases h),rfl⟩⟩
def PA:bC 12 ⟨.int .u64,1,8,[.i .u64 0],ae⟩:=⟨_,_,_,⟨Tryz.type12,rfl,rfl,rfl,rfl,rfl,rfl,rfl,Tryz.underlying12,rfl,rfl,(fun _=>rfl),(fun h=>by cases h),rfl⟩⟩
def PB:bC 15 ⟨.ptr,1,8,[.nilp],ae⟩:=⟨_,_,_,⟨Tryz.type15,rfl,rfl,rfl,rfl,rfl,rfl,rfl,Tryz.underlying15,⟨_,rfl⟩,rfl,(fun _=>rfl),(fun h=>by cases h),rfl⟩⟩
def PC:bC 16 ⟨.ptr,1,8,[.nilp],ae⟩:=⟨_,_,_,⟨Tryz.type16,rfl,rfl,rfl,rfl,rfl,rfl,rfl,Tryz.underlying16,⟨_,rfl⟩,rfl,(fun _=>rfl),(fun h=>by cases h),rfl⟩⟩
def PD:bC 17 ⟨.ptr,1,8,[.nilp],ae⟩:=⟨_,_,_,⟨Tryz.type17,rfl,rfl,rfl,rfl,rfl,rfl,rfl,Tryz.underlying17,⟨_,rfl⟩,rfl,(fun _=>rfl),(fun h=>by cases h),rfl⟩⟩
def PE:bC 21 ⟨.int .i32,1,4,[.i .i32 0],ae⟩:=⟨_,_,_,⟨Tryz.type21,rfl,rfl,rfl,rfl,rfl,rfl,rfl,Tryz.underlying21,rfl,rfl,(fun _=>rfl),(fun h=>by cases h),rfl⟩⟩
def PF:bC 22 ⟨.slice 5,1,24,[.nil],ae⟩:=⟨_,_,_,⟨Tryz.type22,rfl,rfl,rfl,rfl,rfl,rfl,rfl,Tryz.underlying22,rfl,rfl,(fun _=>rfl),(fun h=>by cases h),rfl⟩⟩
def PG:bC 23 ⟨.slice 30,1,24,[.nil],ae⟩:=⟨_,_,_,⟨Tryz.type23,rfl,rfl,rfl,rfl,rfl,rfl,rfl,Tryz.underlying23,rfl,rfl,(fun _=>rfl),(fun h=>by cases h),rfl⟩⟩
def PH:bC 27 ⟨.slice 40,1,24,[.nil],ae⟩:=⟨_,_,_,⟨Tryz.type27,rfl,rfl,rfl,rfl,rfl,rfl,rfl,Tryz.underlying27,rfl,rfl,(fun _=>rfl),(fun h=>by cases h),rfl⟩⟩
def PI:bC 28 ⟨.slice 57,1,24,[.nil],ae⟩:=⟨_,_,_,⟨Tryz.type28,rfl,rfl,rfl,rfl,rfl,rfl,rfl,Tryz.underlying28,rfl,rfl,(fun _=>rfl),(fun h=>by cases h),rfl⟩⟩
def PJ:bC 29 ⟨.struct [(27,0),(28,1),(3,2)],3,56,[.nil,.nil,.i .i64 0],ae⟩:=⟨_,_,_,⟨Tryz.type29,rfl,rfl,rfl,rfl,rfl,rfl,rfl,Tryz.underlying29,⟨_,rfl,rfl,by simp⟩,rfl,(fun h=>by cases h),(fun _=>⟨by kernel_rfl,rfl⟩),rfl⟩⟩
def PK:bC 30 ⟨.struct [(27,0),(28,1),(3,2)],3,56,[.nil,.nil,.i .i64 0],ae⟩:=⟨_,_,_,⟨Tryz.type30,rfl,rfl,rfl,rfl,rfl,rfl,rfl,Tryz.underlying30,⟨_,rfl,rfl,by simp⟩,rfl,(fun h=>by cases h),(fun _=>⟨by kernel_rfl,rfl⟩),rfl⟩⟩
def PL:bC 31 ⟨.slice 65,1,24,[.nil],ae⟩:=⟨_,_,_,⟨Tryz.type31,rfl,rfl,rfl,rfl,rfl,rfl,rfl,Tryz.underlying31,rfl,rfl,(fun _=>rfl),(fun h=>by cases h),rfl⟩⟩
def PM:bC 32 ⟨.slice 3,1,24,[.nil],ae⟩:=⟨_,_,_,⟨Tryz.type32,rfl,rfl,rfl,rfl,rfl,rfl,rfl,Tryz.underlying32,rfl,rfl,(fun _=>rfl),(fun h=>by cases h),rfl⟩⟩
def PN:bC 33 ⟨.slice 68,1,24,[.nil],ae⟩:=⟨_,_,_,⟨Tryz.type33,rfl,rfl,rfl,rfl,rfl,rfl,rfl,Tryz.underlying33,rfl,rfl,(fun _=>rfl),(fun h=>by cases h),rfl⟩⟩
def PO:bC 34 ⟨.slice 72,1,24,[.nil],ae⟩:=⟨_,_,_,⟨Tryz.type34,rfl,rfl,rfl,rfl,rfl,rfl,rfl,Tryz.underlying34,rfl,rfl,(fun _=>rfl),(fun h=>by cases h),rfl⟩⟩
def PP:bC 35 ⟨.struct [(31,0),(3,1),(3,2),(3,3),(32,4),(33,5),(34,6)],7,120,[.nil,.i .i64 0,.i .i64 0,.i .i64 0,.nil,.nil,.nil],ae⟩:=⟨_,_,_,⟨Tryz.type35,rfl,rfl,rfl,rfl,rfl,rfl,rfl,Tryz.underlying35,⟨_,rfl,rfl,by simp⟩,rfl,(fun h=>by cases h),(fun _=>⟨by kernel_rfl,rfl⟩),rfl⟩⟩
def PQ:bC 36 ⟨.struct [(31,0),(3,1),(3,2),(3,3),(32,4),(33,5),(34,6)],7,120,[.nil,.i .i64 0,.i .i64 0,.i .i64 0,.nil,.nil,.nil],ae⟩:=⟨_,_,_,⟨Tryz.type36,rfl,rfl,rfl,rfl,rfl,rfl,rfl,Tryz.underlying36,⟨_,rfl,rfl,by simp⟩,rfl,(fun h=>by cases h),(fun _=>⟨by kernel_rfl,rfl⟩),rfl⟩⟩
def PR:bC 40 ⟨.struct [(9,0),(9,1)],2,32,[.s [],.s []],ae⟩:=⟨_,_,_,⟨Tryz.type40,rfl,rfl,rfl,rfl,rfl,rfl,rfl,Tryz.underlying40,⟨_,rfl,rfl,by simp⟩,rfl,(fun h=>by cases h),(fun _=>⟨by kernel_rfl,rfl⟩),rfl⟩⟩
def PS:bC 44 ⟨.slice 147,1,24,[.nil],ae⟩:=⟨_,_,_,⟨Tryz.type44,rfl,rfl,rfl,rfl,rfl,rfl,rfl,Tryz.underlying44,rfl,rfl,(fun _=>rfl),(fun h=>by cases h),rfl⟩⟩
def PT:bC 45 ⟨.slice 238,1,24,[.nil],ae⟩:=⟨_,_,_,⟨Tryz.type45,rfl,rfl,rfl,rfl,rfl,rfl,rfl,Tryz.underlying45,rfl,rfl,(fun _=>rfl),(fun h=>by cases h),rfl⟩⟩
def PU:bC 46 ⟨.slice 240,1,24,[.nil],ae⟩:=⟨_,_,_,⟨Tryz.type46,rfl,rfl,rfl,rfl,rfl,rfl,rfl,Tryz.underlying46,rfl,rfl,(fun _=>rfl),(fun h=>by cases h),rfl⟩⟩
def PV:bC 47 ⟨.struct [(23,0),(44,1),(45,2),(46,3)],4,96,[.nil,.nil,.nil,.nil],ae⟩:=⟨_,_,_,⟨Tryz.type47,rfl,rfl,rfl,rfl,rfl,rfl,rfl,Tryz.underlying47,⟨_,rfl,rfl,by simp⟩,rfl,(fun h=>by cases h),(fun _=>⟨by kernel_rfl,rfl⟩),rfl⟩⟩
def PW:bC 48 ⟨.struct [(23,0),(44,1),(45,2),(46,3)],4,96,[.nil,.nil,.nil,.nil],ae⟩:=⟨_,_,_,⟨Tryz.type48,rfl,rfl,rfl,rfl,rfl,rfl,rfl,Tryz.underlying48,⟨_,rfl,rfl,by simp⟩,rfl,(fun h=>by cases h),(fun _=>⟨by kernel_rfl,rfl⟩),rfl⟩⟩
def PX:bC 52 ⟨.ptr,1,8,[.nilp],ae⟩:=⟨_,_,_,⟨Tryz.type52,rfl,rfl,rfl,rfl,rfl,rfl,rfl,Tryz.underlying52,⟨_,rfl⟩,rfl,(fun _=>rfl),(fun h=>by cases h),rfl⟩⟩
def PY:bC 57 ⟨.struct [(9,0),(3,1)],2,24,[.s [],.i .i64 0],ae⟩:=⟨_,_,_,⟨Tryz.type57,rfl,rfl,rfl,rfl,rfl,rfl,rfl,Tryz.underlying57,⟨_,rfl,rfl,by simp⟩,rfl,(fun h=>by cases h),(fun _=>⟨by kernel_rfl,rfl⟩),rfl⟩⟩
def PZ:bC 58 ⟨.ptr,1,8,[.nilp],ae⟩:=⟨_,_,_,⟨Tryz.type58,rfl,rfl,rfl,rfl,rfl,rfl,rfl,Tryz.underlying58,⟨_,rfl⟩,rfl,(fun _=>rfl),(fun h=>by cases h),rfl⟩⟩
def P0:bC 60 ⟨.struct [(9,0),(4,1)],2,24,[.s [],.b ag],ae⟩:=⟨_,_,_,⟨Tryz.type60,rfl,rfl,rfl,rfl,rfl,rfl,rfl,Tryz.underlying60,⟨_,rfl,rfl,by simp⟩,rfl,(fun h=>by cases h),(fun _=>⟨by kernel_rfl,rfl⟩),rfl⟩⟩
def P1:bC 65 ⟨.struct [(3,0),(9,1),(3,2),(3,3)],4,40,[.i .i64 0,.s [],.i .i64 0,.i .i64 0],ae⟩:=⟨_,_,_,⟨Tryz.type65,rfl,rfl,rfl,rfl,rfl,rfl,rfl,Tryz.underlying65,⟨_,rfl,rfl,by simp⟩,rfl,(fun h=>by cases h),(fun _=>⟨by kernel_rfl,rfl⟩),rfl⟩⟩
def P2:bC 68 ⟨.struct [(3,0),(3,1),(3,2)],3,24,[.i .i64 0,.i .i64 0,.i .i64 0],ae⟩:=⟨_,_,_,⟨Tryz.type68,rfl,rfl,rfl,rfl,rfl,rfl,rfl,Tryz.underlying68,⟨_,rfl,rfl,by simp⟩,rfl,(fun h=>by cases h),(fun _=>⟨by kernel_rfl,rfl⟩),rfl⟩⟩
def P3:bC 69 ⟨.slice 100,1,24,[.nil],ae⟩:=⟨_,_,_,⟨Tryz.type69,rfl,rfl,rfl,rfl,rfl,rfl,rfl,Tryz.underlying69,rfl,rfl,(fun _=>rfl),(fun h=>by cases h),rfl⟩⟩
def P4:bC 70 ⟨.slice 103,1,24,[.nil],ae⟩:=⟨_,_,_,⟨Tryz.type70,rfl,rfl,rfl,rfl,rfl,rfl,rfl,Tryz.underlying70,rfl,rfl,(fun _=>rfl),(fun h=>by cases h),rfl⟩⟩
def P5:bC 72 ⟨.struct [(3,0),(3,1),(3,2),(3,3),(3,4),(9,5),(69,6),(70,7)],8,104,[.i .i64 0,.i .i64 0,.i .i64 0,.i .i64 0,.i .i64 0,.s [],.nil,.nil],ae⟩:=⟨_,_,_,⟨Tryz.type72,rfl,rfl,rfl,rfl,rfl,rfl,rfl,Tryz.underlying72,⟨_,rfl,rfl,by simp⟩,rfl,(fun h=>by cases h),(fun _=>⟨by kernel_rfl,rfl⟩),rfl⟩⟩
def P6:bC 86 ⟨.slice 9,1,24,[.nil],ae⟩:=⟨_,_,_,⟨Tryz.type86,rfl,rfl,rfl,rfl,rfl,rfl,rfl,Tryz.underlying86,rfl,rfl,(fun _=>rfl),(fun h=>by cases h),rfl⟩⟩
def P7:bC 90 ⟨.struct [(22,0),(3,1)],2,32,[.nil,.i .i64 0],ae⟩:=⟨_,_,_,⟨Tryz.type90,rfl,rfl,rfl,rfl,rfl,rfl,rfl,Tryz.underlying90,⟨_,rfl,rfl,by simp⟩,rfl,(fun h=>by cases h),(fun _=>⟨by kernel_rfl,rfl⟩),rfl⟩⟩
def P8:bC 93 ⟨.ptr,1,8,[.nilp],ae⟩:=⟨_,_,_,⟨Tryz.type93,rfl,rfl,rfl,rfl,rfl,rfl,rfl,Tryz.underlying93,⟨_,rfl⟩,rfl,(fun _=>rfl),(fun h=>by cases h),rfl⟩⟩
def P9:bC 95 ⟨.struct [(9,0),(3,1),(4,2)],3,32,[.s [],.i .i64 0,.b ag],ae⟩:=⟨_,_,_,⟨Tryz.type95,rfl,rfl,rfl,rfl,rfl,rfl,rfl,Tryz.underlying95,⟨_,rfl,rfl,by simp⟩,rfl,(fun h=>by cases h),(fun _=>⟨by kernel_rfl,rfl⟩),rfl⟩⟩
def P_:bC 100 ⟨.struct [(3,0),(3,1),(3,2),(3,3)],4,32,[.i .i64 0,.i .i64 0,.i .i64 0,.i .i64 0],ae⟩:=⟨_,_,_,⟨Tryz.type100,rfl,rfl,rfl,rfl,rfl,rfl,rfl,Tryz.underlying100,⟨_,rfl,rfl,by simp⟩,rfl,(fun h=>by cases h),(fun _=>⟨by kernel_rfl,rfl⟩),rfl⟩⟩
def Qa:bC 101 ⟨.slice 136,1,24,[.nil],ae⟩:=⟨_,_,_,⟨Tryz.type101,rfl,rfl,rfl,rfl,rfl,rfl,rfl,Tryz.underlying101,rfl,rfl,(fun _=>rfl),(fun h=>by cases h),rfl⟩⟩
def Qb:bC 103 ⟨.struct [(3,0),(101,1),(101,2)],3,56,[.i .i64 0,.nil,.nil],ae⟩:=⟨_,_,_,⟨Tryz.type103,rfl,rfl,rfl,rfl,rfl,rfl,rfl,Tryz.underlying103,⟨_,rfl,rfl,by simp⟩,rfl,(fun h=>by cases h),(fun _=>⟨by kernel_rfl,rfl⟩),rfl⟩⟩
def Qc:bC 112 ⟨.slice 118,1,24,[.nil],ae⟩:=⟨_,_,_,⟨Tryz.type112,rfl,rfl,rfl,rfl,rfl,rfl,rfl,Tryz.underlying112,rfl,rfl,(fun _=>rfl),(fun h=>by cases h),rfl⟩⟩
def Qd:bC 118 ⟨.struct [(3,0),(3,1),(3,2)],3,24,[.i .i64 0,.i .i64 0,.i .i64 0],ae⟩:=⟨_,_,_,⟨Tryz.type118,rfl,rfl,rfl,rfl,rfl,rfl,rfl,Tryz.underlying118,⟨_,rfl,rfl,by simp⟩,rfl,(fun h=>by cases h),(fun _=>⟨by kernel_rfl,rfl⟩),rfl⟩⟩
def Qe:bC 136 ⟨.struct [(3,0),(3,1)],2,16,[.i .i64 0,.i .i64 0],ae⟩:=⟨_,_,_,⟨Tryz.type136,rfl,rfl,rfl,rfl,rfl,rfl,rfl,Tryz.underlying136,⟨_,rfl,rfl,by simp⟩,rfl,(fun h=>by cases h),(fun _=>⟨by kernel_rfl,rfl⟩),rfl⟩⟩
def Qf:bC 143 ⟨.slice 243,1,24,[.nil],ae⟩:=⟨_,_,_,⟨Tryz.type143,rfl,rfl,rfl,rfl,rfl,rfl,rfl,Tryz.underlying143,rfl,rfl,(fun _=>rfl),(fun h=>by cases h),rfl⟩⟩
def Qg:bC 144 ⟨.slice 245,1,24,[.nil],ae⟩:=⟨_,_,_,⟨Tryz.type144,rfl,rfl,rfl,rfl,rfl,rfl,rfl,Tryz.underlying144,rfl,rfl,(fun _=>rfl),(fun h=>by cases h),rfl⟩⟩
def Qh:bC 145 ⟨.slice 247,1,24,[.nil],ae⟩:=⟨_,_,_,⟨Tryz.type145,rfl,rfl,rfl,rfl,rfl,rfl,rfl,Tryz.underlying145,rfl,rfl,(fun _=>rfl),(fun h=>by cases h),rfl⟩⟩
def Qi:bC 147 ⟨.struct [(9,0),(3,1),(36,2),(3,9),(32,10),(3,11),(3,12),(143,13),(144,14),(145,15)],16,264,[.s [],.i .i64 0,.nil,.i .i64 0,.i .i64 0,.i .i64 0,.nil,.nil,.nil,.i .i64 0,.nil,.i .i64 0,.i .i64 0,.nil,.nil,.nil],ae⟩:=⟨_,_,_,⟨Tryz.type147,rfl,rfl,rfl,rfl,rfl,rfl,rfl,Tryz.underlying147,⟨_,rfl,rfl,by simp⟩,rfl,(fun h=>by cases h),(fun _=>⟨by kernel_rfl,rfl⟩),rfl⟩⟩
def Qj:bC 149 ⟨.slice 86,1,24,[.nil],ae⟩:=⟨_,_,_,⟨Tryz.type149,rfl,rfl,rfl,rfl,rfl,rfl,rfl,Tryz.underlying149,rfl,rfl,(fun _=>rfl),(fun h=>by cases h),rfl⟩⟩
def Qk:bC 150 ⟨.slice 28,1,24,[.nil],ae⟩:=⟨_,_,_,⟨Tryz.type150,rfl,rfl,rfl,rfl,rfl,rfl,rfl,Tryz.underlying150,rfl,rfl,(fun _=>rfl),(fun h=>by cases h),rfl⟩⟩
def Ql:bC 197 ⟨.ptr,1,8,[.nilp],ae⟩:=⟨_,_,_,⟨Tryz.type197,rfl,rfl,rfl,rfl,rfl,rfl,rfl,Tryz.underlying197,⟨_,rfl⟩,rfl,(fun _=>rfl),(fun h=>by cases h),rfl⟩⟩
def Qm:bC 199 ⟨.struct [(52,0),(9,1),(9,2),(9,3),(3,4),(9,5)],6,80,[.nilp,.s [],.s [],.s [],.i .i64 0,.s []],ae⟩:=⟨_,_,_,⟨Tryz.type199,rfl,rfl,rfl,rfl,rfl,rfl,rfl,Tryz.underlying199,⟨_,rfl,rfl,by simp⟩,rfl,(fun h=>by cases h),(fun _=>⟨by kernel_rfl,rfl⟩),rfl⟩⟩
def Qn:bC 203 ⟨.ptr,1,8,[.nilp],ae⟩:=⟨_,_,_,⟨Tryz.type203,rfl,rfl,rfl,rfl,rfl,rfl,rfl,Tryz.underlying203,⟨_,rfl⟩,rfl,(fun _=>rfl),(fun h=>by cases h),rfl⟩⟩
def Qo:bC 205 ⟨.struct [(36,0),(4,7)],8,128,[.nil,.i .i64 0,.i .i64 0,.i .i64 0,.nil,.nil,.nil,.b ag],ae⟩:=⟨_,_,_,⟨Tryz.type205,rfl,rfl,rfl,rfl,rfl,rfl,rfl,Tryz.underlying205,⟨_,rfl,rfl,by simp⟩,rfl,(fun h=>by cases h),(fun _=>⟨by kernel_rfl,rfl⟩),rfl⟩⟩
def Qp:bC 213 ⟨.ptr,1,8,[.nilp],ae⟩:=⟨_,_,_,⟨Tryz.type213,rfl,rfl,rfl,rfl,rfl,rfl,rfl,Tryz.underlying213,⟨_,rfl⟩,rfl,(fun _=>rfl),(fun h=>by cases h),rfl⟩⟩
def Qq:bC 221 ⟨.int .u32,1,4,[.i .u32 0],ae⟩:=⟨_,_,_,⟨Tryz.type221,rfl,rfl,rfl,rfl,rfl,rfl,rfl,Tryz.underlying221,rfl,rfl,(fun _=>rfl),(fun h=>by cases h),rfl⟩⟩
def Qr:bC 238 ⟨.struct [(3,0),(9,1),(3,2)],3,32,[.i .i64 0,.s [],.i .i64 0],ae⟩:=⟨_,_,_,⟨Tryz.type238,rfl,rfl,rfl,rfl,rfl,rfl,rfl,Tryz.underlying238,⟨_,rfl,rfl,by simp⟩,rfl,(fun h=>by cases h),(fun _=>⟨by kernel_rfl,rfl⟩),rfl⟩⟩
def Qs:bC 240 ⟨.struct [(9,0),(32,1),(3,2)],3,48,[.s [],.nil,.i .i64 0],ae⟩:=⟨_,_,_,⟨Tryz.type240,rfl,rfl,rfl,rfl,rfl,rfl,rfl,Tryz.underlying240,⟨_,rfl,rfl,by simp⟩,rfl,(fun h=>by cases h),(fun _=>⟨by kernel_rfl,rfl⟩),rfl⟩⟩
def Qt:bC 243 ⟨.struct [(3,0),(3,1)],2,16,[.i .i64 0,.i .i64 0],ae⟩:=⟨_,_,_,⟨Tryz.type243,rfl,rfl,rfl,rfl,rfl,rfl,rfl,Tryz.underlying243,⟨_,rfl,rfl,by simp⟩,rfl,(fun h=>by cases h),(fun _=>⟨by kernel_rfl,rfl⟩),rfl⟩⟩
def Qu:bC 245 ⟨.struct [(9,0),(9,1),(3,2),(3,3)],4,48,[.s [],.s [],.i .i64 0,.i .i64 0],ae⟩:=⟨_,_,_,⟨Tryz.type245,rfl,rfl,rfl,rfl,rfl,rfl,rfl,Tryz.underlying245,⟨_,rfl,rfl,by simp⟩,rfl,(fun h=>by cases h),(fun _=>⟨by kernel_rfl,rfl⟩),rfl⟩⟩
def Qv:bC 247 ⟨.struct [(3,0),(3,1)],2,16,[.i .i64 0,.i .i64 0],ae⟩:=⟨_,_,_,⟨Tryz.type247,rfl,rfl,rfl,rfl,rfl,rfl,rfl,Tryz.underlying247,⟨_,rfl,rfl,by simp⟩,rfl,(fun h=>by cases h),(fun _=>⟨by kernel_rfl,rfl⟩),rfl⟩⟩
def Cp:bU Tryz.prog T:=zel Co (by
 intro p hp
 simp only[Co,List.mem_cons,List.not_mem_nil,or_false]at hp
 rcases hp with rfl|rfl|rfl|rfl|rfl|rfl|rfl|rfl|rfl|rfl|rfl|rfl|rfl|rfl|rfl|rfl|rfl|rfl|rfl|rfl|rfl|rfl|rfl|rfl|rfl|rfl|rfl|rfl|rfl|rfl|rfl|rfl|rfl|rfl|rfl|rfl|rfl|rfl|rfl|rfl|rfl|rfl|rfl|rfl|rfl|rfl|rfl|rfl|rfl|rfl|rfl|rfl|rfl|rfl|rfl|rfl|rfl|rfl|rfl|rfl|rfl|rfl|rfl|rfl|rfl|rfl|rfl|rfl|rfl
 ·exact Pq
 ·exact Pr
 ·exact Ps
 ·exact Pt
 ·exact Pu
 ·exact Pv
 ·exact Pw
 ·exact Px
 ·exact Py
 ·exact Pz
 ·exact PA
 ·exact PB
 ·exact PC
 ·exact PD
 ·exact PE
 ·exact PF
 ·exact PG
 ·exact PH
 ·exact PI
 ·exact PJ
 ·exact PK
 ·exact PL
 ·exact PM
 ·exact PN
 ·exact PO
 ·exact PP
 ·exact PQ
 ·exact PR
 ·exact PS
 ·exact PT
 ·exact PU
 ·exact PV
 ·exact PW
 ·exact PX
 ·exact PY
 ·exact PZ
 ·exact P0
 ·exact P1
 ·exact P2
 ·exact P3
 ·exact P4
 ·exact P5
 ·exact P6
 ·exact P7
 ·exact P8
 ·exact P9
 ·exact P_
 ·exact Qa
 ·exact Qb
 ·exact Qc
 ·exact Qd
 ·exact Qe
 ·exact Qf
 ·exact Qg
 ·exact Qh
 ·exact Qi
 ·exact Qj
 ·exact Qk
 ·exact Ql
 ·exact Qm
 ·exact Qn
 ·exact Qo
 ·exact Qp
 ·exact Qq
 ·exact Qr
 ·exact Qs
 ·exact Qt
 ·exact Qu
 ·exact Qv)
end
section
open Go Go.AM Go.TM
set_option maxRecDepth 100000
abbrev lK:GT:=(.pair .str .str)
abbrev my:GT:=(.pair .str (.int .i64))
abbrev cw:GT:=(.pair (.sl lK) (.pair (.sl my) (.int .i64)))
abbrev cD:GT:=(.pair (.int .i64) (.pair .str (.pair (.int .i64) (.int .i64))))
abbrev bA:GT:=(.pair (.int .i64) (.pair (.int .i64) (.int .i64)))
abbrev hY:GT:=(.pair (.int .i64) bA)
abbrev c9:GT:=(.pair (.int .i64) (.int .i64))
abbrev cO:GT:=(.pair (.int .i64) (.pair (.sl c9) (.sl c9)))
abbrev cE:GT:=(.pair (.int .i64) (.pair (.int .i64) (.pair (.int .i64) (.pair (.int .i64) (.pair (.int .i64) (.pair .str (.pair (.sl hY) (.sl cO))))))))
abbrev Cq:GT:=(.pair (.sl cD) (.pair (.int .i64) (.pair (.int .i64) (.pair (.int .i64) (.pair (.sl (.int .i64)) (.pair (.sl bA) (.sl cE)))))))
abbrev Qw:GT:=(.pair .str (.pair .str c9))
abbrev s4:GT:=(.pair .str (.pair (.int .i64) (.pair Cq (.pair (.int .i64) (.pair (.sl (.int .i64)) (.pair (.int .i64) (.pair (.int .i64) (.pair (.sl c9) (.pair (.sl Qw) (.sl c9))))))))))
abbrev Cr:GT:=(.pair (.int .i64) my)
abbrev wH:GT:=(.pair .str (.pair (.sl (.int .i64)) (.int .i64)))
abbrev Qx:GT:=(.pair (.sl cw) (.pair (.sl s4) (.pair (.sl Cr) (.sl wH))))
abbrev Qy:GT:=(.pair (.sl .byte) (.int .i64))
abbrev Qz:GT:=(.pair Cq .bool)
instance iq30:DecidableEq (List (List UInt8×List UInt8)×List (List UInt8×Int)×Int):=cw.decEq
instance iq103:DecidableEq (Int×List (Int×Int)×List (Int×Int)):=cO.decEq
instance iq72:DecidableEq (Int×Int×Int×Int×Int×List UInt8×List (Int×Int×Int×Int)×List (Int×List (Int×Int)×List (Int×Int))):=cE.decEq
instance iq35:DecidableEq (List (Int×List UInt8×Int×Int)×Int×Int×Int×List Int×List (Int×Int×Int)×List (Int×Int×Int×Int×Int×List UInt8×List (Int×Int×Int×Int)×List (Int×List (Int×Int)×List (Int×Int)))):=Cq.decEq
instance iq147:DecidableEq (List UInt8×Int×(List (Int×List UInt8×Int×Int)×Int×Int×Int×List Int×List (Int×Int×Int)×List (Int×Int×Int×Int×Int×List UInt8×List (Int×Int×Int×Int)×List (Int×List (Int×Int)×List (Int×Int))))×Int×List Int×Int×Int×List (Int×Int)×List (List UInt8×List UInt8×Int×Int)×List (Int×Int)):=s4.decEq
instance iq240:DecidableEq (List UInt8×List Int×Int):=wH.decEq
instance iq47:DecidableEq (List (List (List UInt8×List UInt8)×List (List UInt8×Int)×Int)×List (List UInt8×Int×(List (Int×List UInt8×Int×Int)×Int×Int×Int×List Int×List (Int×Int×Int)×List (Int×Int×Int×Int×Int×List UInt8×List (Int×Int×Int×Int)×List (Int×List (Int×Int)×List (Int×Int))))×Int×List Int×Int×Int×List (Int×Int)×List (List UInt8×List UInt8×Int×Int)×List (Int×Int))×List (Int×List UInt8×Int)×List (List UInt8×List Int×Int)):=Qx.decEq
instance iq89:DecidableEq (List UInt8×Int):=Qy.decEq
instance iq204:DecidableEq ((List (Int×List UInt8×Int×Int)×Int×Int×Int×List Int×List (Int×Int×Int)×List (Int×Int×Int×Int×Int×List UInt8×List (Int×Int×Int×Int)×List (Int×List (Int×Int)×List (Int×Int))))×Bool):=Qz.decEq
abbrev zLdr:=List (List UInt8×List UInt8)×List (List UInt8×Int)×Int
abbrev zWor:=List (List (List UInt8×List UInt8)×List (List UInt8×Int)×Int)×List (List UInt8×Int×(List (Int×List UInt8×Int×Int)×Int×Int×Int×List Int×List (Int×Int×Int)×List (Int×Int×Int×Int×Int×List UInt8×List (Int×Int×Int×Int)×List (Int×List (Int×Int)×List (Int×Int))))×Int×List Int×Int×Int×List (Int×Int)×List (List UInt8×List UInt8×Int×Int)×List (Int×Int))×List (Int×List UInt8×Int)×List (List UInt8×List Int×Int)
abbrev Cst:=Int×List UInt8×Int×Int
abbrev Knd:=Int×Int
abbrev Trp:=Int×Int×Int×Int
abbrev Frm:=Int×List Knd×List Knd
abbrev Fld:=Int×Int×Int
abbrev Mth:=Int×Int×Int×Int×Int×List UInt8×List Trp×List Frm
abbrev Cls:=List Cst×Int×Int×Int×List Int×List Fld×List Mth
abbrev ch:List Pat:=[.sl cD,.i .i64,.i .i64,.i .i64,.sl (.int .i64),.sl bA,.sl cE]
abbrev eW:List Pat:=[.own cD ae,.i .i64,.i .i64,.i .i64,.own (.int .i64) ae,.own bA ae,.own cE ae]
abbrev jz:List Pat:=[.own cD ae,.i .i64,.i .i64,.i .i64,.own (.int .i64) ae,.own bA ae,.own cE ae,.b]
abbrev QA:List Pat:=[.ptr 100001 0,.s,.s,.s,.i .i64,.s]
abbrev kn:List Pat:=[.sl .byte,.i .i64]
abbrev lL:List Pat:=[.s,.i .i64,.b]
abbrev cy:List Pat:=[.i .i64,.i .i64,.i .i64,.i .i64,.i .i64,.s,.sl hY,.sl cO]
abbrev fR:List Pat:=[.i .i64,.i .i64,.i .i64,.i .i64,.i .i64,.s,.own hY ae,.own cO ae]
abbrev dG:List Nat:=[9,8,7,6,5,4,3,2,1,0]
abbrev nI:List Nat:=[0,1,2,3,4,5,6,7,8,9]
abbrev fK:List Nat:=[0,1,2,3,4,5,6]
abbrev fT:List Nat:=[0,1,2,3,4,5]
abbrev s5:List Nat:=[7,6,5,4,3,2,1]
abbrev ko:List Nat:=[11,10,9,8,7,6,5,4,3,2,1,0]
abbrev Cs:List Nat:=[0,1,2,3,4,5,6,7,8,9,10,11,12]
abbrev jA:List Nat:=[12,11,10,9,8,7,6,5,4,3,2,1,0]
abbrev dv:List Nat:=[6,5,4,3,2,1,0]
abbrev lM:List Nat:=[0,1,2,3,4,5,6,7,8,9,10]
abbrev fw:List Nat:=[10,9,8,7,6,5,4,3,2,1,0]
abbrev gp:List Nat:=[2,1,0]
abbrev gP:List Nat:=[4,5,6]
abbrev nJ:List Nat:=[0,1,2,3,5,6,7,8,10,11,12,13]
abbrev wJ:List Nat:=[5,6,7,8,10,11,12,13]
abbrev gq:List Nat:=[8,7,6,5,4,3,2,1,0]
abbrev qI:List Nat:=[10,11,12,13]
abbrev jB:List Nat:=[13,12,11,10,9,8,7,6,5,4,3,2,1,0]
abbrev jC:List Nat:=[16,15,14,13,12,11,10,9,8,7,6,5,4,3,2,1,0]
abbrev s6:List Nat:=[15,14,13,12,11,10,9,8,7,6,5,4,3,2,1,0]
abbrev Iv:List Nat:=[26,25,24,23,22,21,20,19,18,17,16,15,14,13,12,11,10,9,8,7,6,5,4,3,2,1,0]
abbrev Iw:List Nat:=[23,22,21,20,19,18,17,16,15,14,13,12,11,10,9,8,7,6,5,4,3,2,1,0]
abbrev iE:List Nat:=[4,3,2,1,0]
abbrev wK:List Nat:=[21,20,19,18,17,16,15,14,13,12,11,10,9,8,7,6,5,4,3,2,1,0]
abbrev Ix:List Nat:=[0,1,2,3,4,5,6,9,10,11,12,13,14,17,18,19,20,21,22]
abbrev Iy:List Nat:=[22,21,20,19,18,17,15,14,13,12,11,10,9,7,6,5,4,3,2,1]
abbrev Ct:List Nat:=[24,23,22,21,20,19,18,17,16,15,14,13,12,11,10,9,8,7,6,5,4,3,2,1,0]
abbrev mz:List Nat:=[17,16,15,14,13,12,11,10,9,8,7,6,5,4,3,2,1,0]
abbrev s7:List Nat:=[14,13,12,11,10,9,8,7,6,5,4,3,2,1,0]
abbrev wL:List Nat:=[0,1,2,3,4,5,6,7,8,9,10,11,12,13,14,15]
abbrev hZ:List Nat:=[0,1,2]
abbrev lN:List Nat:=[0,1,2,3,4,5,6,7,8]
abbrev i_:List Nat:=[7,6,5,4,3,2,1,0]
abbrev Iz:List Nat:=[20,19,18,17,16,15,14,13,12,11,10,9,8,7,6,5,4,3,2,1,0]
abbrev lO:List Nat:=[0,1,2,5,4]
abbrev kp:List Nat:=[0,1,2,3,4,5,6,7,10]
abbrev qJ:List Nat:=[0,1,2,3,4,5,6,10]
abbrev qK:List Nat:=[11,10,9,8,7]
abbrev qL:List Nat:=[13,12,11,10,9,8,7]
abbrev qM:List Nat:=[14,13,12,11,10,9,8,7,6,5,4,3,2]
abbrev wM:List Nat:=[18,17,16,15,14,13,12,11,10,9,8,7,6,5,4,3,2,1,0]
abbrev mA:List Nat:=[5,4,3,2,1]
abbrev s8:List Nat:=[9,8,6,5,4,3,2,1]
abbrev IA:List Nat:=[19,18,17,16,15,14,13,12,11,10,9,8,7,6,5,4,3,2,1,0]
abbrev fU:List Nat:=[0,1,2,4,5,6]
abbrev jW:List OPat:=[.box 100000 (pl kn)]
abbrev iF:List OPat:=[.box 100000 (pl jz)]
abbrev dM:List Pat:=[.i .i64,.s,.i .i64,.i .i64]
abbrev lP:List Pat:=[.own cD ae,.i .i64,.i .i64,.i .i64,.own (.int .i64) ae,.own bA ae,.ar 100001,.b]
abbrev fx:List Pat:=[.i .i64,.i .i64,.i .i64]
abbrev s9:List Pat:=[.own cD ae,.i .i64,.i .i64,.i .i64,.ar 100001,.own bA ae,.own cE ae,.b]
abbrev s_:List Pat:=[.own cD ae,.i .i64,.i .i64,.i .i64,.own (.int .i64) ae,.ar 100001,.own cE ae,.b]
abbrev Cu:List Pat:=[.i .i64,.i .i64,.i .i64,.i .i64]
abbrev nK:List Pat:=[.i .i64,.i .i64,.i .i64,.i .i64,.i .i64,.s,.own hY ae,.ar 100002]
abbrev iG:List OPat:=[.box 1 (pl ch)]
abbrev ja:List OPat:=[.box 100000 (pl lL)]
abbrev qN:List OPat:=[.box 3 (pl fR),.box 4 (pl fR),.box 100000 (pl lL)]
abbrev qO:List OPat:=[.box 2 (pl eW),.box 3 (pl eW),.box 100000 (pl lL)]
abbrev wO:List OPat:=[.box 2 (pl ch),.box 3 (pl ch)]
abbrev pc:List OPat:=[.box 2 (pl ch),.box 3 (pl cy)]
abbrev pd:List Pat:=[.own lK ae,.own my ae,.i .i64]
abbrev kX:List OPat:=[.box 100000 (pl QA),.box 100001 (pl kn)]
abbrev ta:List Pat:=[.ptr 100000 0,.s,.s,.s,.i .i64,.s]
abbrev nL:List Pat:=[.ptr 100000 0]
abbrev gu:List Pat:=[.sl lK,.sl my,.i .i64]
abbrev eX:List Pat:=[.s,.b]
abbrev wP:List Pat:=[.i .i64,.sl c9,.sl c9]
abbrev kq:List Pat:=[.i .i64]
abbrev wQ:List Pat:=[.ptr 100000 0,.ptr 100001 0]
abbrev pe:List OPat:=[.box 100000 (pl ch)]
abbrev IB:List Pat:=[.own cD ag,.i .i64,.i .i64,.i .i64,.own (.int .i64) ag,.own bA ag,.own cE ae]
abbrev IC:List Pat:=[.own cD ag,.i .i64,.i .i64,.i .i64,.own (.int .i64) ag,.own bA ag,.ar 7024]
abbrev h_:List Pat:=[.i .i64,.i .i64,.i .i64,.i .i64,.i .i64,.s,.own hY ae,.own cO ag]
abbrev tc:List Pat:=[.own cD ag,.i .i64,.i .i64,.i .i64,.own (.int .i64) ag,.own bA ag,.own cE ag]
abbrev wR:List Pat:=[.ar 1022,.ar 2022,.i .i64]
abbrev qP:List Pat:=[.sl cw,.sl s4,.sl Cr,.sl wH]
abbrev Cv:List Pat:=[.i .i64,.i .i64,.i .i64,.i .i64,.i .i64,.s,.own hY ag,.own cO ae]
abbrev ID:List Pat:=[.own cD ae,.i .i64,.i .i64,.i .i64,.own (.int .i64) ae,.own bA ae,.own cE ag]
abbrev IE:List OPat:=[.box 1 (pl cy),.box 2 (pl fR),.box 7 (pl cy)]
abbrev IF:List Pat:=[.i .i64,.i .i64,.i .i64,.i .i64,.i .i64,.s,.own hY ae,.sl cO]
abbrev zTb:=jy Tryz.prog
abbrev zBy:=List UInt8
def Cw:Tryz.prog.follows .mixedOrders=ae:=by kernel_rfl
def aB (n:Nat)(p:Bool)(l:List (Nat×List Nat))(ti to:SPat)(F:ti.Den->Option to.Den)(rs:List ResultVar)(k:Nat)(ns:List Nat):TEnt:=⟨n,p,l,ti,to.Den,F,wF T rs k to ns⟩
def aC {tbl:Nat->Option TEnt}(htbl:jy Tryz.prog tbl){f:FuncId}{fn:Func}{c:Code}{rs:List ResultVar}{n:Nat}{pure:Bool}{ps:List (Nat×List Nat)}{inS out:SPat}{ns:List Nat}{k:Nat}(pl:Nat->List Nat×a_)(iv:Nat->Option SPat)
 (hf:Tryz.prog.funcs[f]? = U fn) (hb:fn.body=U c) (hc:∀(vs:Array Value) (w:World),(callFunc f vs).run Tryz.prog w = .ok (.enter f vs) w) {F:inS.Den->Option out.Den}
 (hrs:fn.results=rs.toArray:=by rfl) (hn:fn.ntmps=n:=by rfl) (hp:jS T pl c=ae:=by kernel_rfl) (hin:Ck n inS ns=ae:=by kernel_rfl)
 (hF:∀x,sZ T tbl pl n iv c inS out x=F x:=by intro _;kernel_rfl):jy Tryz.prog (az k ⟨f,pure,ps,inS,out.Den,F,wF T rs n out ns⟩ tbl) :=
 htbl.ins (Cl htbl Cp Cw pure ps inS out ns pl iv hf hb hrs hn hp hin hc F fun x _ h=>(hF x).trans h)

end
end Go.Proofs.YtmjlecabpbiigaaGreat
