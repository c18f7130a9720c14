/- Part 26 of the proof of FnTidy; no condition. -/
import Derived.Test.YtdpapeledldifaaGreatX24
import Derived.Test.YtdpapeledldifaaGreatProg
set_option autoImplicit true
set_option relaxedAutoImplicit true
set_option linter.all false
namespace Go.Proofs.YtdpapeledldifaaGreat
section
open Go.AM
set_option maxRecDepth 100000
def lay:List (Nat×TI):=[
 (2,⟨.int .i64,1,8,[.i .i64 0],true⟩),
 (3,⟨.int .i64,1,8,[.i .i64 0],true⟩),
 (4,⟨.bool,1,1,[.b false],true⟩),
 (5,⟨.int .u8,1,1,[.i .u8 0],true⟩),
 (6,⟨.int .u8,1,1,[.i .u8 0],true⟩),
 (7,⟨.struct [(2,0),(3,1),(4,2),(6,3)],4,24,[.i .i64 0,.i .i64 0,.b false,.i .u8 0],true⟩),
 (8,⟨.struct [(2,0),(3,1),(4,2),(6,3)],4,24,[.i .i64 0,.i .i64 0,.b false,.i .u8 0],true⟩),
 (9,⟨.str,1,16,[.s []],true⟩),
 (10,⟨.str,1,16,[.s []],true⟩),
 (11,⟨.str,1,16,[.s []],true⟩),
 (12,⟨.int .u64,1,8,[.i .u64 0],true⟩),
 (15,⟨.ptr,1,8,[.nilp],true⟩),
 (16,⟨.ptr,1,8,[.nilp],true⟩),
 (17,⟨.ptr,1,8,[.nilp],true⟩),
 (21,⟨.int .i32,1,4,[.i .i32 0],true⟩),
 (22,⟨.slice 5,1,24,[.nil],true⟩),
 (23,⟨.slice 27,1,24,[.nil],true⟩),
 (26,⟨.struct [(3,0),(9,1),(3,2),(3,3)],4,40,[.i .i64 0,.s [],.i .i64 0,.i .i64 0],true⟩),
 (27,⟨.struct [(3,0),(9,1),(3,2),(3,3)],4,40,[.i .i64 0,.s [],.i .i64 0,.i .i64 0],true⟩),
 (30,⟨.slice 3,1,24,[.nil],true⟩),
 (31,⟨.slice 89,1,24,[.nil],true⟩),
 (32,⟨.slice 53,1,24,[.nil],true⟩),
 (33,⟨.struct [(23,0),(3,1),(3,2),(3,3),(30,4),(31,5),(32,6)],7,120,[.nil,.i .i64 0,.i .i64 0,.i .i64 0,.nil,.nil,.nil],true⟩),
 (34,⟨.struct [(23,0),(3,1),(3,2),(3,3),(30,4),(31,5),(32,6)],7,120,[.nil,.i .i64 0,.i .i64 0,.i .i64 0,.nil,.nil,.nil],true⟩),
 (41,⟨.slice 156,1,24,[.nil],true⟩),
 (42,⟨.slice 164,1,24,[.nil],true⟩),
 (43,⟨.slice 161,1,24,[.nil],true⟩),
 (44,⟨.struct [(41,0),(3,1),(3,2),(3,3),(30,4),(42,5),(43,6)],7,120,[.nil,.i .i64 0,.i .i64 0,.i .i64 0,.nil,.nil,.nil],true⟩),
 (45,⟨.struct [(41,0),(3,1),(3,2),(3,3),(30,4),(42,5),(43,6)],7,120,[.nil,.i .i64 0,.i .i64 0,.i .i64 0,.nil,.nil,.nil],true⟩),
 (50,⟨.slice 147,1,24,[.nil],true⟩),
 (51,⟨.slice 100,1,24,[.nil],true⟩),
 (53,⟨.struct [(3,0),(3,1),(3,2),(3,3),(3,4),(9,5),(50,6),(51,7)],8,104,[.i .i64 0,.i .i64 0,.i .i64 0,.i .i64 0,.i .i64 0,.s [],.nil,.nil],true⟩),
 (54,⟨.slice 60,1,24,[.nil],true⟩),
 (60,⟨.struct [(3,0),(3,1),(3,2)],3,24,[.i .i64 0,.i .i64 0,.i .i64 0],true⟩),
 (65,⟨.slice 9,1,24,[.nil],true⟩),
 (74,⟨.ptr,1,8,[.nilp],true⟩),
 (81,⟨.ptr,1,8,[.nilp],true⟩),
 (83,⟨.struct [(9,0),(4,1)],2,24,[.s [],.b false],true⟩),
 (89,⟨.struct [(3,0),(3,1),(3,2)],3,24,[.i .i64 0,.i .i64 0,.i .i64 0],true⟩),
 (98,⟨.slice 184,1,24,[.nil],true⟩),
 (100,⟨.struct [(3,0),(98,1),(98,2)],3,56,[.i .i64 0,.nil,.nil],true⟩),
 (130,⟨.struct [(22,0),(3,1)],2,32,[.nil,.i .i64 0],true⟩),
 (143,⟨.struct [(9,0),(9,1)],2,32,[.s [],.s []],true⟩),
 (147,⟨.struct [(3,0),(3,1),(3,2),(3,3)],4,32,[.i .i64 0,.i .i64 0,.i .i64 0,.i .i64 0],true⟩),
 (149,⟨.ptr,1,8,[.nilp],true⟩),
 (151,⟨.struct [(9,0),(3,1),(4,2)],3,32,[.s [],.i .i64 0,.b false],true⟩),
 (156,⟨.struct [(3,0),(9,1),(3,2),(3,3)],4,40,[.i .i64 0,.s [],.i .i64 0,.i .i64 0],true⟩),
 (158,⟨.slice 261,1,24,[.nil],true⟩),
 (159,⟨.slice 259,1,24,[.nil],true⟩),
 (161,⟨.struct [(3,0),(3,1),(3,2),(3,3),(3,4),(9,5),(158,6),(159,7)],8,104,[.i .i64 0,.i .i64 0,.i .i64 0,.i .i64 0,.i .i64 0,.s [],.nil,.nil],true⟩),
 (164,⟨.struct [(3,0),(3,1),(3,2)],3,24,[.i .i64 0,.i .i64 0,.i .i64 0],true⟩),
 (184,⟨.struct [(3,0),(3,1)],2,16,[.i .i64 0,.i .i64 0],true⟩),
 (203,⟨.ptr,1,8,[.nilp],true⟩),
 (244,⟨.int .u32,1,4,[.i .u32 0],true⟩),
 (247,⟨.ptr,1,8,[.nilp],true⟩),
 (249,⟨.struct [(74,0),(9,1),(9,2),(9,3),(3,4),(9,5)],6,80,[.nilp,.s [],.s [],.s [],.i .i64 0,.s []],true⟩),
 (252,⟨.ptr,1,8,[.nilp],true⟩),
 (254,⟨.struct [(34,0),(4,7)],8,128,[.nil,.i .i64 0,.i .i64 0,.i .i64 0,.nil,.nil,.nil,.b false],true⟩),
 (257,⟨.slice 286,1,24,[.nil],true⟩),
 (259,⟨.struct [(3,0),(257,1),(257,2)],3,56,[.i .i64 0,.nil,.nil],true⟩),
 (261,⟨.struct [(3,0),(3,1),(3,2),(3,3)],4,32,[.i .i64 0,.i .i64 0,.i .i64 0,.i .i64 0],true⟩),
 (286,⟨.struct [(3,0),(3,1)],2,16,[.i .i64 0,.i .i64 0],true⟩)]
def T:Nat→TI:=zQF lay
abbrev zLy (n:Nat)(x:TI):Prop:=∃i z d,TyOk Tryz.prog n x i z d
def ok_2:zLy 2 ⟨.int .i64,1,8,[.i .i64 0],true⟩:=⟨_,_,_,⟨Tryz.type2,rfl,rfl,rfl,rfl,rfl,rfl,rfl,Tryz.underlying2,rfl,rfl,(fun _=>rfl),(fun h=>by cases h),rfl⟩⟩
def ok_3:zLy 3 ⟨.int .i64,1,8,[.i .i64 0],true⟩:=⟨_,_,_,⟨Tryz.type3,rfl,rfl,rfl,rfl,rfl,rfl,rfl,Tryz.underlying3,rfl,rfl,(fun _=>rfl),(fun h=>by cases h),rfl⟩⟩
def ok_4:zLy 4 ⟨.bool,1,1,[.b false],true⟩:=⟨_,_,_,⟨Tryz.type4,rfl,rfl,rfl,rfl,rfl,rfl,rfl,Tryz.underlying4,rfl,rfl,(fun _=>rfl),(fun h=>by cases h),rfl⟩⟩
def ok_5:zLy 5 ⟨.int .u8,1,1,[.i .u8 0],true⟩:=⟨_,_,_,⟨Tryz.type5,rfl,rfl,rfl,rfl,rfl,rfl,rfl,Tryz.underlying5,rfl,rfl,(fun _=>rfl),(fun h=>by cases h),rfl⟩⟩
def ok_6:zLy 6 ⟨.int .u8,1,1,[.i .u8 0],true⟩:=⟨_,_,_,⟨Tryz.type6,rfl,rfl,rfl,rfl,rfl,rfl,rfl,Tryz.underlying6,rfl,rfl,(fun _=>rfl),(fun h=>by cases h),rfl⟩⟩
def ok_7:zLy 7 ⟨.struct [(2,0),(3,1),(4,2),(6,3)],4,24,[.i .i64 0,.i .i64 0,.b false,.i .u8 0],true⟩:=⟨_,_,_,⟨Tryz.type7,rfl,rfl,rfl,rfl,rfl,rfl,rfl,Tryz.underlying7,⟨_,rfl,rfl,by simp⟩,rfl,(fun h=>by cases h),(fun _=>⟨by kernel_rfl,rfl⟩),rfl⟩⟩
def ok_8:zLy 8 ⟨.struct [(2,0),(3,1),(4,2),(6,3)],4,24,[.i .i64 0,.i .i64 0,.b false,.i .u8 0],true⟩:=⟨_,_,_,⟨Tryz.type8,rfl,rfl,rfl,rfl,rfl,rfl,rfl,Tryz.underlying8,⟨_,rfl,rfl,by simp⟩,rfl,(fun h=>by cases h),(fun _=>⟨by kernel_rfl,rfl⟩),rfl⟩⟩
def ok_9:zLy 9 ⟨.str,1,16,[.s []],true⟩:=⟨_,_,_,⟨Tryz.type9,rfl,rfl,rfl,rfl,rfl,rfl,rfl,Tryz.underlying9,rfl,rfl,(fun _=>rfl),(fun h=>by cases h),rfl⟩⟩
def ok_10:zLy 10 ⟨.str,1,16,[.s []],true⟩:=⟨_,_,_,⟨Tryz.type10,rfl,rfl,rfl,rfl,rfl,rfl,rfl,Tryz.underlying10,rfl,rfl,(fun _=>rfl),(fun h=>by cases h),rfl⟩⟩
def ok_11:zLy 11 ⟨.str,1,16,[.s []],true⟩:=⟨_,_,_,⟨Tryz.type11,rfl,rfl,rfl,rfl,rfl,rfl,rfl,Tryz.underlying11,rfl,rfl,(fun _=>rfl),(fun h=>by cases h),rfl⟩⟩
def ok_12:zLy 12 ⟨.int .u64,1,8,[.i .u64 0],true⟩:=⟨_,_,_,⟨Tryz.type12,rfl,rfl,rfl,rfl,rfl,rfl,rfl,Tryz.underlying12,rfl,rfl,(fun _=>rfl),(fun h=>by cases h),rfl⟩⟩
def ok_15:zLy 15 ⟨.ptr,1,8,[.nilp],true⟩:=⟨_,_,_,⟨Tryz.type15,rfl,rfl,rfl,rfl,rfl,rfl,rfl,Tryz.underlying15,⟨_,rfl⟩,rfl,(fun _=>rfl),(fun h=>by cases h),rfl⟩⟩
def ok_16:zLy 16 ⟨.ptr,1,8,[.nilp],true⟩:=⟨_,_,_,⟨Tryz.type16,rfl,rfl,rfl,rfl,rfl,rfl,rfl,Tryz.underlying16,⟨_,rfl⟩,rfl,(fun _=>rfl),(fun h=>by cases h),rfl⟩⟩
def ok_17:zLy 17 ⟨.ptr,1,8,[.nilp],true⟩:=⟨_,_,_,⟨Tryz.type17,rfl,rfl,rfl,rfl,rfl,rfl,rfl,Tryz.underlying17,⟨_,rfl⟩,rfl,(fun _=>rfl),(fun h=>by cases h),rfl⟩⟩
def ok_21:zLy 21 ⟨.int .i32,1,4,[.i .i32 0],true⟩:=⟨_,_,_,⟨Tryz.type21,rfl,rfl,rfl,rfl,rfl,rfl,rfl,Tryz.underlying21,rfl,rfl,(fun _=>rfl),(fun h=>by cases h),rfl⟩⟩
def ok_22:zLy 22 ⟨.slice 5,1,24,[.nil],true⟩:=⟨_,_,_,⟨Tryz.type22,rfl,rfl,rfl,rfl,rfl,rfl,rfl,Tryz.underlying22,rfl,rfl,(fun _=>rfl),(fun h=>by cases h),rfl⟩⟩
def ok_23:zLy 23 ⟨.slice 27,1,24,[.nil],true⟩:=⟨_,_,_,⟨Tryz.type23,rfl,rfl,rfl,rfl,rfl,rfl,rfl,Tryz.underlying23,rfl,rfl,(fun _=>rfl),(fun h=>by cases h),rfl⟩⟩
def ok_26:zLy 26 ⟨.struct [(3,0),(9,1),(3,2),(3,3)],4,40,[.i .i64 0,.s [],.i .i64 0,.i .i64 0],true⟩:=⟨_,_,_,⟨Tryz.type26,rfl,rfl,rfl,rfl,rfl,rfl,rfl,Tryz.underlying26,⟨_,rfl,rfl,by simp⟩,rfl,(fun h=>by cases h),(fun _=>⟨by kernel_rfl,rfl⟩),rfl⟩⟩
def ok_27:zLy 27 ⟨.struct [(3,0),(9,1),(3,2),(3,3)],4,40,[.i .i64 0,.s [],.i .i64 0,.i .i64 0],true⟩:=⟨_,_,_,⟨Tryz.type27,rfl,rfl,rfl,rfl,rfl,rfl,rfl,Tryz.underlying27,⟨_,rfl,rfl,by simp⟩,rfl,(fun h=>by cases h),(fun _=>⟨by kernel_rfl,rfl⟩),rfl⟩⟩
def ok_30:zLy 30 ⟨.slice 3,1,24,[.nil],true⟩:=⟨_,_,_,⟨Tryz.type30,rfl,rfl,rfl,rfl,rfl,rfl,rfl,Tryz.underlying30,rfl,rfl,(fun _=>rfl),(fun h=>by cases h),rfl⟩⟩
def ok_31:zLy 31 ⟨.slice 89,1,24,[.nil],true⟩:=⟨_,_,_,⟨Tryz.type31,rfl,rfl,rfl,rfl,rfl,rfl,rfl,Tryz.underlying31,rfl,rfl,(fun _=>rfl),(fun h=>by cases h),rfl⟩⟩
def ok_32:zLy 32 ⟨.slice 53,1,24,[.nil],true⟩:=⟨_,_,_,⟨Tryz.type32,rfl,rfl,rfl,rfl,rfl,rfl,rfl,Tryz.underlying32,rfl,rfl,(fun _=>rfl),(fun h=>by cases h),rfl⟩⟩
def ok_33:zLy 33 ⟨.struct [(23,0),(3,1),(3,2),(3,3),(30,4),(31,5),(32,6)],7,120,[.nil,.i .i64 0,.i .i64 0,.i .i64 0,.nil,.nil,.nil],true⟩:=⟨_,_,_,⟨Tryz.type33,rfl,rfl,rfl,rfl,rfl,rfl,rfl,Tryz.underlying33,⟨_,rfl,rfl,by simp⟩,rfl,(fun h=>by cases h),(fun _=>⟨by kernel_rfl,rfl⟩),rfl⟩⟩
def ok_34:zLy 34 ⟨.struct [(23,0),(3,1),(3,2),(3,3),(30,4),(31,5),(32,6)],7,120,[.nil,.i .i64 0,.i .i64 0,.i .i64 0,.nil,.nil,.nil],true⟩:=⟨_,_,_,⟨Tryz.type34,rfl,rfl,rfl,rfl,rfl,rfl,rfl,Tryz.underlying34,⟨_,rfl,rfl,by simp⟩,rfl,(fun h=>by cases h),(fun _=>⟨by kernel_rfl,rfl⟩),rfl⟩⟩
def ok_41:zLy 41 ⟨.slice 156,1,24,[.nil],true⟩:=⟨_,_,_,⟨Tryz.type41,rfl,rfl,rfl,rfl,rfl,rfl,rfl,Tryz.underlying41,rfl,rfl,(fun _=>rfl),(fun h=>by cases h),rfl⟩⟩
def ok_42:zLy 42 ⟨.slice 164,1,24,[.nil],true⟩:=⟨_,_,_,⟨Tryz.type42,rfl,rfl,rfl,rfl,rfl,rfl,rfl,Tryz.underlying42,rfl,rfl,(fun _=>rfl),(fun h=>by cases h),rfl⟩⟩
def ok_43:zLy 43 ⟨.slice 161,1,24,[.nil],true⟩:=⟨_,_,_,⟨Tryz.type43,rfl,rfl,rfl,rfl,rfl,rfl,rfl,Tryz.underlying43,rfl,rfl,(fun _=>rfl),(fun h=>by cases h),rfl⟩⟩
def ok_44:zLy 44 ⟨.struct [(41,0),(3,1),(3,2),(3,3),(30,4),(42,5),(43,6)],7,120,[.nil,.i .i64 0,.i .i64 0,.i .i64 0,.nil,.nil,.nil],true⟩:=⟨_,_,_,⟨Tryz.type44,rfl,rfl,rfl,rfl,rfl,rfl,rfl,Tryz.underlying44,⟨_,rfl,rfl,by simp⟩,rfl,(fun h=>by cases h),(fun _=>⟨by kernel_rfl,rfl⟩),rfl⟩⟩
def ok_45:zLy 45 ⟨.struct [(41,0),(3,1),(3,2),(3,3),(30,4),(42,5),(43,6)],7,120,[.nil,.i .i64 0,.i .i64 0,.i .i64 0,.nil,.nil,.nil],true⟩:=⟨_,_,_,⟨Tryz.type45,rfl,rfl,rfl,rfl,rfl,rfl,rfl,Tryz.underlying45,⟨_,rfl,rfl,by simp⟩,rfl,(fun h=>by cases h),(fun _=>⟨by kernel_rfl,rfl⟩),rfl⟩⟩
def ok_50:zLy 50 ⟨.slice 147,1,24,[.nil],true⟩:=⟨_,_,_,⟨Tryz.type50,rfl,rfl,rfl,rfl,rfl,rfl,rfl,Tryz.underlying50,rfl,rfl,(fun _=>rfl),(fun h=>by cases h),rfl⟩⟩
def ok_51:zLy 51 ⟨.slice 100,1,24,[.nil],true⟩:=⟨_,_,_,⟨Tryz.type51,rfl,rfl,rfl,rfl,rfl,rfl,rfl,Tryz.underlying51,rfl,rfl,(fun _=>rfl),(fun h=>by cases h),rfl⟩⟩
def ok_53:zLy 53 ⟨.struct [(3,0),(3,1),(3,2),(3,3),(3,4),(9,5),(50,6),(51,7)],8,104,[.i .i64 0,.i .i64 0,.i .i64 0,.i .i64 0,.i .i64 0,.s [],.nil,.nil],true⟩:=⟨_,_,_,⟨Tryz.type53,rfl,rfl,rfl,rfl,rfl,rfl,rfl,Tryz.underlying53,⟨_,rfl,rfl,by simp⟩,rfl,(fun h=>by cases h),(fun _=>⟨by kernel_rfl,rfl⟩),rfl⟩⟩
def ok_54:zLy 54 ⟨.slice 60,1,24,[.nil],true⟩:=⟨_,_,_,⟨Tryz.type54,rfl,rfl,rfl,rfl,rfl,rfl,rfl,Tryz.underlying54,rfl,rfl,(fun _=>rfl),(fun h=>by cases h),rfl⟩⟩
def ok_60:zLy 60 ⟨.struct [(3,0),(3,1),(3,2)],3,24,[.i .i64 0,.i .i64 0,.i .i64 0],true⟩:=⟨_,_,_,⟨Tryz.type60,rfl,rfl,rfl,rfl,rfl,rfl,rfl,Tryz.underlying60,⟨_,rfl,rfl,by simp⟩,rfl,(fun h=>by cases h),(fun _=>⟨by kernel_rfl,rfl⟩),rfl⟩⟩
def ok_65:zLy 65 ⟨.slice 9,1,24,[.nil],true⟩:=⟨_,_,_,⟨Tryz.type65,rfl,rfl,rfl,rfl,rfl,rfl,rfl,Tryz.underlying65,rfl,rfl,(fun _=>rfl),(fun h=>by cases h),rfl⟩⟩
def ok_74:zLy 74 ⟨.ptr,1,8,[.nilp],true⟩:=⟨_,_,_,⟨Tryz.type74,rfl,rfl,rfl,rfl,rfl,rfl,rfl,Tryz.underlying74,⟨_,rfl⟩,rfl,(fun _=>rfl),(fun h=>by cases h),rfl⟩⟩
def ok_81:zLy 81 ⟨.ptr,1,8,[.nilp],true⟩:=⟨_,_,_,⟨Tryz.type81,rfl,rfl,rfl,rfl,rfl,rfl,rfl,Tryz.underlying81,⟨_,rfl⟩,rfl,(fun _=>rfl),(fun h=>by cases h),rfl⟩⟩
def ok_83:zLy 83 ⟨.struct [(9,0),(4,1)],2,24,[.s [],.b false],true⟩:=⟨_,_,_,⟨Tryz.type83,rfl,rfl,rfl,rfl,rfl,rfl,rfl,Tryz.underlying83,⟨_,rfl,rfl,by simp⟩,rfl,(fun h=>by cases h),(fun _=>⟨by kernel_rfl,rfl⟩),rfl⟩⟩
def ok_89:zLy 89 ⟨.struct [(3,0),(3,1),(3,2)],3,24,[.i .i64 0,.i .i64 0,.i .i64 0],true⟩:=⟨_,_,_,⟨Tryz.type89,rfl,rfl,rfl,rfl,rfl,rfl,rfl,Tryz.underlying89,⟨_,rfl,rfl,by simp⟩,rfl,(fun h=>by cases h),(fun _=>⟨by kernel_rfl,rfl⟩),rfl⟩⟩
def ok_98:zLy 98 ⟨.slice 184,1,24,[.nil],true⟩:=⟨_,_,_,⟨Tryz.type98,rfl,rfl,rfl,rfl,rfl,rfl,rfl,Tryz.underlying98,rfl,rfl,(fun _=>rfl),(fun h=>by cases h),rfl⟩⟩
def ok_100:zLy 100 ⟨.struct [(3,0),(98,1),(98,2)],3,56,[.i .i64 0,.nil,.nil],true⟩:=⟨_,_,_,⟨Tryz.type100,rfl,rfl,rfl,rfl,rfl,rfl,rfl,Tryz.underlying100,⟨_,rfl,rfl,by simp⟩,rfl,(fun h=>by cases h),(fun _=>⟨by kernel_rfl,rfl⟩),rfl⟩⟩
def ok_130:zLy 130 ⟨.struct [(22,0),(3,1)],2,32,[.nil,.i .i64 0],true⟩:=⟨_,_,_,⟨Tryz.type130,rfl,rfl,rfl,rfl,rfl,rfl,rfl,Tryz.underlying130,⟨_,rfl,rfl,by simp⟩,rfl,(fun h=>by cases h),(fun _=>⟨by kernel_rfl,rfl⟩),rfl⟩⟩
def ok_143:zLy 143 ⟨.struct [(9,0),(9,1)],2,32,[.s [],.s []],true⟩:=⟨_,_,_,⟨Tryz.type143,rfl,rfl,rfl,rfl,rfl,rfl,rfl,Tryz.underlying143,⟨_,rfl,rfl,by simp⟩,rfl,(fun h=>by cases h),(fun _=>⟨by kernel_rfl,rfl⟩),rfl⟩⟩
def ok_147:zLy 147 ⟨.struct [(3,0),(3,1),(3,2),(3,3)],4,32,[.i .i64 0,.i .i64 0,.i .i64 0,.i .i64 0],true⟩:=⟨_,_,_,⟨Tryz.type147,rfl,rfl,rfl,rfl,rfl,rfl,rfl,Tryz.underlying147,⟨_,rfl,rfl,by simp⟩,rfl,(fun h=>by cases h),(fun _=>⟨by kernel_rfl,rfl⟩),rfl⟩⟩
def ok_149:zLy 149 ⟨.ptr,1,8,[.nilp],true⟩:=⟨_,_,_,⟨Tryz.type149,rfl,rfl,rfl,rfl,rfl,rfl,rfl,Tryz.underlying149,⟨_,rfl⟩,rfl,(fun _=>rfl),(fun h=>by cases h),rfl⟩⟩
def ok_151:zLy 151 ⟨.struct [(9,0),(3,1),(4,2)],3,32,[.s [],.i .i64 0,.b false],true⟩:=⟨_,_,_,⟨Tryz.type151,rfl,rfl,rfl,rfl,rfl,rfl,rfl,Tryz.underlying151,⟨_,rfl,rfl,by simp⟩,rfl,(fun h=>by cases h),(fun _=>⟨by kernel_rfl,rfl⟩),rfl⟩⟩
def ok_156:zLy 156 ⟨.struct [(3,0),(9,1),(3,2),(3,3)],4,40,[.i .i64 0,.s [],.i .i64 0,.i .i64 0],true⟩:=⟨_,_,_,⟨Tryz.type156,rfl,rfl,rfl,rfl,rfl,rfl,rfl,Tryz.underlying156,⟨_,rfl,rfl,by simp⟩,rfl,(fun h=>by cases h),(fun _=>⟨by kernel_rfl,rfl⟩),rfl⟩⟩
def ok_158:zLy 158 ⟨.slice 261,1,24,[.nil],true⟩:=⟨_,_,_,⟨Tryz.type158,rfl,rfl,rfl,rfl,rfl,rfl,rfl,Tryz.underlying158,rfl,rfl,(fun _=>rfl),(fun h=>by cases h),rfl⟩⟩
def ok_159:zLy 159 ⟨.slice 259,1,24,[.nil],true⟩:=⟨_,_,_,⟨Tryz.type159,rfl,rfl,rfl,rfl,rfl,rfl,rfl,Tryz.underlying159,rfl,rfl,(fun _=>rfl),(fun h=>by cases h),rfl⟩⟩
def ok_161:zLy 161 ⟨.struct [(3,0),(3,1),(3,2),(3,3),(3,4),(9,5),(158,6),(159,7)],8,104,[.i .i64 0,.i .i64 0,.i .i64 0,.i .i64 0,.i .i64 0,.s [],.nil,.nil],true⟩:=⟨_,_,_,⟨Tryz.type161,rfl,rfl,rfl,rfl,rfl,rfl,rfl,Tryz.underlying161,⟨_,rfl,rfl,by simp⟩,rfl,(fun h=>by cases h),(fun _=>⟨by kernel_rfl,rfl⟩),rfl⟩⟩
def ok_164:zLy 164 ⟨.struct [(3,0),(3,1),(3,2)],3,24,[.i .i64 0,.i .i64 0,.i .i64 0],true⟩:=⟨_,_,_,⟨Tryz.type164,rfl,rfl,rfl,rfl,rfl,rfl,rfl,Tryz.underlying164,⟨_,rfl,rfl,by simp⟩,rfl,(fun h=>by cases h),(fun _=>⟨by kernel_rfl,rfl⟩),rfl⟩⟩
def ok_184:zLy 184 ⟨.struct [(3,0),(3,1)],2,16,[.i .i64 0,.i .i64 0],true⟩:=⟨_,_,_,⟨Tryz.type184,rfl,rfl,rfl,rfl,rfl,rfl,rfl,Tryz.underlying184,⟨_,rfl,rfl,by simp⟩,rfl,(fun h=>by cases h),(fun _=>⟨by kernel_rfl,rfl⟩),rfl⟩⟩
def ok_203:zLy 203 ⟨.ptr,1,8,[.nilp],true⟩:=⟨_,_,_,⟨Tryz.type203,rfl,rfl,rfl,rfl,rfl,rfl,rfl,Tryz.underlying203,⟨_,rfl⟩,rfl,(fun _=>rfl),(fun h=>by cases h),rfl⟩⟩
def ok_244:zLy 244 ⟨.int .u32,1,4,[.i .u32 0],true⟩:=⟨_,_,_,⟨Tryz.type244,rfl,rfl,rfl,rfl,rfl,rfl,rfl,Tryz.underlying244,rfl,rfl,(fun _=>rfl),(fun h=>by cases h),rfl⟩⟩
def ok_247:zLy 247 ⟨.ptr,1,8,[.nilp],true⟩:=⟨_,_,_,⟨Tryz.type247,rfl,rfl,rfl,rfl,rfl,rfl,rfl,Tryz.underlying247,⟨_,rfl⟩,rfl,(fun _=>rfl),(fun h=>by cases h),rfl⟩⟩
def ok_249:zLy 249 ⟨.struct [(74,0),(9,1),(9,2),(9,3),(3,4),(9,5)],6,80,[.nilp,.s [],.s [],.s [],.i .i64 0,.s []],true⟩:=⟨_,_,_,⟨Tryz.type249,rfl,rfl,rfl,rfl,rfl,rfl,rfl,Tryz.underlying249,⟨_,rfl,rfl,by simp⟩,rfl,(fun h=>by cases h),(fun _=>⟨by kernel_rfl,rfl⟩),rfl⟩⟩
def ok_252:zLy 252 ⟨.ptr,1,8,[.nilp],true⟩:=⟨_,_,_,⟨Tryz.type252,rfl,rfl,rfl,rfl,rfl,rfl,rfl,Tryz.underlying252,⟨_,rfl⟩,rfl,(fun _=>rfl),(fun h=>by cases h),rfl⟩⟩
def ok_254:zLy 254 ⟨.struct [(34,0),(4,7)],8,128,[.nil,.i .i64 0,.i .i64 0,.i .i64 0,.nil,.nil,.nil,.b false],true⟩:=⟨_,_,_,⟨Tryz.type254,rfl,rfl,rfl,rfl,rfl,rfl,rfl,Tryz.underlying254,⟨_,rfl,rfl,by simp⟩,rfl,(fun h=>by cases h),(fun _=>⟨by kernel_rfl,rfl⟩),rfl⟩⟩
def ok_257:zLy 257 ⟨.slice 286,1,24,[.nil],true⟩:=⟨_,_,_,⟨Tryz.type257,rfl,rfl,rfl,rfl,rfl,rfl,rfl,Tryz.underlying257,rfl,rfl,(fun _=>rfl),(fun h=>by cases h),rfl⟩⟩
def ok_259:zLy 259 ⟨.struct [(3,0),(257,1),(257,2)],3,56,[.i .i64 0,.nil,.nil],true⟩:=⟨_,_,_,⟨Tryz.type259,rfl,rfl,rfl,rfl,rfl,rfl,rfl,Tryz.underlying259,⟨_,rfl,rfl,by simp⟩,rfl,(fun h=>by cases h),(fun _=>⟨by kernel_rfl,rfl⟩),rfl⟩⟩
def ok_261:zLy 261 ⟨.struct [(3,0),(3,1),(3,2),(3,3)],4,32,[.i .i64 0,.i .i64 0,.i .i64 0,.i .i64 0],true⟩:=⟨_,_,_,⟨Tryz.type261,rfl,rfl,rfl,rfl,rfl,rfl,rfl,Tryz.underlying261,⟨_,rfl,rfl,by simp⟩,rfl,(fun h=>by cases h),(fun _=>⟨by kernel_rfl,rfl⟩),rfl⟩⟩
def ok_286:zLy 286 ⟨.struct [(3,0),(3,1)],2,16,[.i .i64 0,.i .i64 0],true⟩:=⟨_,_,_,⟨Tryz.type286,rfl,rfl,rfl,rfl,rfl,rfl,rfl,Tryz.underlying286,⟨_,rfl,rfl,by simp⟩,rfl,(fun h=>by cases h),(fun _=>⟨by kernel_rfl,rfl⟩),rfl⟩⟩
def layOk:LayOk Tryz.prog T:=LayOk.of_list lay (by
 intro p hp
 simp only[lay,List.mem_cons,List.not_mem_nil,or_false]at hp
 rcases hp with rfl|rfl|rfl|rfl|rfl|rfl|rfl|rfl|rfl|rfl|rfl|rfl|rfl|rfl|rfl|rfl|rfl|rfl|rfl|rfl|rfl|rfl|rfl|rfl|rfl|rfl|rfl|rfl|rfl|rfl|rfl|rfl|rfl|rfl|rfl|rfl|rfl|rfl|rfl|rfl|rfl|rfl|rfl|rfl|rfl|rfl|rfl|rfl|rfl|rfl|rfl|rfl|rfl|rfl|rfl|rfl|rfl|rfl|rfl|rfl|rfl|rfl
 ·exact ok_2
 ·exact ok_3
 ·exact ok_4
 ·exact ok_5
 ·exact ok_6
 ·exact ok_7
 ·exact ok_8
 ·exact ok_9
 ·exact ok_10
 ·exact ok_11
 ·exact ok_12
 ·exact ok_15
 ·exact ok_16
 ·exact ok_17
 ·exact ok_21
 ·exact ok_22
 ·exact ok_23
 ·exact ok_26
 ·exact ok_27
 ·exact ok_30
 ·exact ok_31
 ·exact ok_32
 ·exact ok_33
 ·exact ok_34
 ·exact ok_41
 ·exact ok_42
 ·exact ok_43
 ·exact ok_44
 ·exact ok_45
 ·exact ok_50
 ·exact ok_51
 ·exact ok_53
 ·exact ok_54
 ·exact ok_60
 ·exact ok_65
 ·exact ok_74
 ·exact ok_81
 ·exact ok_83
 ·exact ok_89
 ·exact ok_98
 ·exact ok_100
 ·exact ok_130
 ·exact ok_143
 ·exact ok_147
 ·exact ok_149
 ·exact ok_151
 ·exact ok_156
 ·exact ok_158
 ·exact ok_159
 ·exact ok_161
 ·exact ok_164
 ·exact ok_184
 ·exact ok_203
 ·exact ok_244
 ·exact ok_247
 ·exact ok_249
 ·exact ok_252
 ·exact ok_254
 ·exact ok_257
 ·exact ok_259
 ·exact ok_261
 ·exact ok_286)
end
section
open Go Go.AM Go.TM
set_option maxRecDepth 100000
abbrev tg27:GT:=(.pair (.int .i64) (.pair .str (.pair (.int .i64) (.int .i64))))
abbrev tg89:GT:=(.pair (.int .i64) (.pair (.int .i64) (.int .i64)))
abbrev zFQ:GT:=(.pair (.int .i64) tg89)
abbrev zBv:GT:=(.pair (.int .i64) (.int .i64))
abbrev zBd:GT:=(.pair (.int .i64) (.pair (.sl zBv) (.sl zBv)))
abbrev tg53:GT:=(.pair (.int .i64) (.pair (.int .i64) (.pair (.int .i64) (.pair (.int .i64) (.pair (.int .i64) (.pair .str (.pair (.sl zFQ) (.sl zBd))))))))
abbrev tg33:GT:=(.pair (.sl tg27) (.pair (.int .i64) (.pair (.int .i64) (.pair (.int .i64) (.pair (.sl (.int .i64)) (.pair (.sl tg89) (.sl tg53)))))))
abbrev tg306:GT:=(.pair .str (.pair .str zBv))
abbrev tg70:GT:=(.pair .str (.pair (.int .i64) (.pair tg33 (.pair (.int .i64) (.pair (.sl (.int .i64)) (.pair (.int .i64) (.pair (.int .i64) (.pair (.sl zBv) (.pair (.sl tg306) (.sl zBv))))))))))
abbrev tg118:GT:=(.pair tg33 (.pair tg53 (.pair (.sl tg89) (.pair (.sl (.int .i64)) .bool))))
abbrev tg129:GT:=(.pair (.sl .byte) (.int .i64))
abbrev tg253:GT:=(.pair tg33 .bool)
instance iq100:DecidableEq (Int×List (Int×Int)×List (Int×Int)):=zBd.decEq
instance iq53:DecidableEq (Int×Int×Int×Int×Int×List UInt8×List (Int×Int×Int×Int)×List (Int×List (Int×Int)×List (Int×Int))):=tg53.decEq
instance iq33:DecidableEq (List (Int×List UInt8×Int×Int)×Int×Int×Int×List Int×List (Int×Int×Int)×List (Int×Int×Int×Int×Int×List UInt8×List (Int×Int×Int×Int)×List (Int×List (Int×Int)×List (Int×Int)))):=tg33.decEq
instance iq70:DecidableEq (List UInt8×Int×(List (Int×List UInt8×Int×Int)×Int×Int×Int×List Int×List (Int×Int×Int)×List (Int×Int×Int×Int×Int×List UInt8×List (Int×Int×Int×Int)×List (Int×List (Int×Int)×List (Int×Int))))×Int×List Int×Int×Int×List (Int×Int)×List (List UInt8×List UInt8×Int×Int)×List (Int×Int)):=tg70.decEq
instance iq118:DecidableEq ((List (Int×List UInt8×Int×Int)×Int×Int×Int×List Int×List (Int×Int×Int)×List (Int×Int×Int×Int×Int×List UInt8×List (Int×Int×Int×Int)×List (Int×List (Int×Int)×List (Int×Int))))×(Int×Int×Int×Int×Int×List UInt8×List (Int×Int×Int×Int)×List (Int×List (Int×Int)×List (Int×Int)))×List (Int×Int×Int)×List Int×Bool):=tg118.decEq
instance iq129:DecidableEq (List UInt8×Int):=tg129.decEq
instance iq253:DecidableEq ((List (Int×List UInt8×Int×Int)×Int×Int×Int×List Int×List (Int×Int×Int)×List (Int×Int×Int×Int×Int×List UInt8×List (Int×Int×Int×Int)×List (Int×List (Int×Int)×List (Int×Int))))×Bool):=tg253.decEq
abbrev Cst:=Int×List UInt8×Int×Int
abbrev Knd:=Int×Int
abbrev Trp:=Int×Int×Int×Int
abbrev Frm:=Int×List Knd×List Knd
abbrev Fld:=Int×Int×Int
abbrev Mth:=Int×Int×Int×Int×Int×List UInt8×List Trp×List Frm
abbrev Cls:=List Cst×Int×Int×Int×List Int×List Fld×List Mth
abbrev plC:List Pat:=[.sl tg27,.i .i64,.i .i64,.i .i64,.sl (.int .i64),.sl tg89,.sl tg53]
abbrev plD:List Pat:=[.own tg27 true,.i .i64,.i .i64,.i .i64,.own (.int .i64) true,.own tg89 true,.own tg53 true]
abbrev plB:List Pat:=[.own tg27 true,.i .i64,.i .i64,.i .i64,.own (.int .i64) true,.own tg89 true,.own tg53 true,.b]
abbrev plG:List Pat:=[.ptr 100001 0,.s,.s,.s,.i .i64,.s]
abbrev plR:List Pat:=[.sl .byte,.i .i64]
abbrev plS:List Pat:=[.s,.i .i64,.b]
abbrev plM:List Pat:=[.i .i64,.i .i64,.i .i64,.i .i64,.i .i64,.s,.sl zFQ,.sl zBd]
abbrev plN:List Pat:=[.i .i64,.i .i64,.i .i64,.i .i64,.i .i64,.s,.own zFQ true,.own zBd true]
abbrev zn0:List Nat:=[0,1]
abbrev zn1:List Nat:=[9,8,7,6,5,4,3,2,1,0]
abbrev zn2:List Nat:=[0,1,2,3,4,5]
abbrev zn3:List Nat:=[15,14,13,12,11,10,9,8,7,6,5,4,3,2,1,0]
abbrev zn4:List Nat:=[0,1,2,3,4,5,6,7,8,9,10,11,12,13,14,15]
abbrev zn5:List Nat:=[20,19,18,17,16,15,14,13,12,11,10,9,8,7,6,5,4,3,2,1,0]
abbrev zn6:List Nat:=[17,16,15,14,13,12,11,10,9,8,7,6,5,4,3,2,1,0]
abbrev zn7:List Nat:=[0,1,2,3,4,5,6,7,8,9]
abbrev zn8:List Nat:=[0,1,2,3,4,5,6]
abbrev zn9:List Nat:=[7,6,5,4,3,2,1]
abbrev zn10:List Nat:=[11,10,9,8,7,6,5,4,3,2,1,0]
abbrev zn11:List Nat:=[0,1,2,3,4,5,6,7,8,9,10,11,12]
abbrev zn12:List Nat:=[12,11,10,9,8,7,6,5,4,3,2,1,0]
abbrev zn13:List Nat:=[6,5,4,3,2,1,0]
abbrev zn14:List Nat:=[0,1,2,3,4,5,6,7,8,9,10]
abbrev zn15:List Nat:=[10,9,8,7,6,5,4,3,2,1,0]
abbrev zn16:List Nat:=[2,1,0]
abbrev zn17:List Nat:=[4,5,6]
abbrev zn18:List Nat:=[0,1,2,3,5,6,7,8,10,11,12,13]
abbrev zn19:List Nat:=[5,6,7,8,10,11,12,13]
abbrev zn20:List Nat:=[8,7,6,5,4,3,2,1,0]
abbrev zn21:List Nat:=[10,11,12,13]
abbrev zn22:List Nat:=[13,12,11,10,9,8,7,6,5,4,3,2,1,0]
abbrev zn23:List Nat:=[16,15,14,13,12,11,10,9,8,7,6,5,4,3,2,1,0]
abbrev zn24:List Nat:=[14,13,12,11,10,9,8,7,6,5,4,3,2,1]
abbrev zn25:List Nat:=[26,25,24,23,22,21,20,19,18,17,16,15,14,13,12,11,10,9,8,7,6,5,4,3,2,1,0]
abbrev zn26:List Nat:=[23,22,21,20,19,18,17,16,15,14,13,12,11,10,9,8,7,6,5,4,3,2,1,0]
abbrev zn27:List Nat:=[4,3,2,1,0]
abbrev zn28:List Nat:=[21,20,19,18,17,16,15,14,13,12,11,10,9,8,7,6,5,4,3,2,1,0]
abbrev zn29:List Nat:=[0,1,2,3,4,5,6,9,10,11,12,13,14,17,18,19,20,21,22]
abbrev zn30:List Nat:=[22,21,20,19,18,17,15,14,13,12,11,10,9,7,6,5,4,3,2,1]
abbrev zn31:List Nat:=[24,23,22,21,20,19,18,17,16,15,14,13,12,11,10,9,8,7,6,5,4,3,2,1,0]
abbrev zn32:List Nat:=[14,13,12,11,10,9,8,7,6,5,4,3,2,1,0]
abbrev zn33:List Nat:=[8,7,6,5,4,3,2]
abbrev zn34:List Nat:=[10,9,8,7,6,5,4,3,2]
abbrev zn35:List Nat:=[0,1,2,3,4,5,6,7,8]
abbrev zn36:List Nat:=[7,6,5,4,3,2,1,0]
abbrev zn37:List Nat:=[0,1,2,4,7]
abbrev zn38:List Nat:=[13,12,11,10,9,8,7,6,5,4,3,2]
abbrev zn39:List Nat:=[5,4,3,2,1]
abbrev zn40:List Nat:=[9,8,6,5,4,3,2,1]
abbrev zn41:List Nat:=[19,18,17,16,15,14,13,12,11,10,9,8,7,6,5,4,3,2,1,0]
abbrev zn42:List Nat:=[0,1,2,4,5,6]
abbrev zo0:List OPat:=[.box 100000 (pl plR)]
abbrev zo1:List OPat:=[.box 100000 (pl plG),.box 100001 (pl plR)]
abbrev zo2:List Pat:=[.ptr 100000 0,.s,.s,.s,.i .i64,.s]
abbrev zo3:List OPat:=[.box 100000 (pl plB)]
abbrev zo4:List Pat:=[.i .i64,.s,.i .i64,.i .i64]
abbrev zo5:List Pat:=[.own tg27 true,.i .i64,.i .i64,.i .i64,.own (.int .i64) true,.own tg89 true,.ar 100001,.b]
abbrev zo6:List Pat:=[.i .i64,.i .i64,.i .i64]
abbrev zo7:List Pat:=[.own tg27 true,.i .i64,.i .i64,.i .i64,.ar 100001,.own tg89 true,.own tg53 true,.b]
abbrev zo8:List Pat:=[.own tg27 true,.i .i64,.i .i64,.i .i64,.own (.int .i64) true,.ar 100001,.own tg53 true,.b]
abbrev zo9:List Pat:=[.i .i64,.i .i64,.i .i64,.i .i64]
abbrev zo10:List Pat:=[.i .i64,.i .i64,.i .i64,.i .i64,.i .i64,.s,.own zFQ true,.ar 100002]
abbrev zo11:List OPat:=[.box 1 (pl plC)]
abbrev zo12:List OPat:=[.box 100000 (pl plS)]
abbrev zo13:List OPat:=[.box 3 (pl plN),.box 4 (pl plN),.box 100000 (pl plS)]
abbrev zo14:List OPat:=[.box 2 (pl plD),.box 3 (pl plD),.box 100000 (pl plS)]
abbrev zo15:List OPat:=[.box 2 (pl plM),.box 3 (pl plM)]
abbrev zo16:List OPat:=[.box 2 (pl plC),.box 3 (pl plC)]
abbrev zo17:List OPat:=[.box 2 (pl plC),.box 3 (pl plM)]
abbrev zo18:List Pat:=[.ar 100001,.i .i64,.i .i64,.i .i64,.ar 100002,.ar 100003,.ar 100004]
abbrev zo19:List OPat:=[.box 2 (pl plD),.box 3 (pl plD),.box 100000 (pl plR)]
abbrev zo20:List Pat:=[.i .i64,.i .i64,.i .i64,.i .i64,.i .i64,.s,.ar 7023,.ar 8023]
abbrev zo21:List Pat:=[.s,.b]
abbrev zo22:List Pat:=[.i .i64,.sl zBv,.sl zBv]
abbrev zo23:List Pat:=[.i .i64]
abbrev zo24:List Pat:=[.ptr 100000 0,.ptr 100001 0]
abbrev zo25:List OPat:=[.box 100000 (pl plC)]
abbrev zo26:List Pat:=[.own tg27 false,.i .i64,.i .i64,.i .i64,.own (.int .i64) false,.own tg89 false,.own tg53 true]
abbrev zo27:List Pat:=[.own tg27 false,.i .i64,.i .i64,.i .i64,.own (.int .i64) false,.own tg89 false,.ar 7024]
abbrev zo28:List Pat:=[.i .i64,.i .i64,.i .i64,.i .i64,.i .i64,.s,.own zFQ true,.own zBd false]
abbrev zo29:List Pat:=[.own tg27 false,.i .i64,.i .i64,.i .i64,.own (.int .i64) false,.own tg89 false,.own tg53 false]
abbrev zo30:List Pat:=[.i .i64,.i .i64,.i .i64,.i .i64,.i .i64,.s,.own zFQ false,.own zBd true]
abbrev zo31:List Pat:=[.own tg27 true,.i .i64,.i .i64,.i .i64,.own (.int .i64) true,.own tg89 true,.own tg53 false]
abbrev zo32:List OPat:=[.box 1 (pl plM),.box 2 (pl plN),.box 7 (pl plM)]
abbrev zo33:List Pat:=[.i .i64,.i .i64,.i .i64,.i .i64,.i .i64,.s,.own zFQ true,.sl zBd]
abbrev zo34:List OPat:=[.box 3 (pl plC),.box 4 (pl plC)]
abbrev zTb:=TbOk Tryz.prog
abbrev zBy:=List UInt8
def mixed:Tryz.prog.follows .mixedOrders=true:=by kernel_rfl
def mkE (n:Nat)(p:Bool)(l:List (Nat×List Nat))(ti to:SPat)(F:ti.Den→Option to.Den)(rs:List ResultVar)(k:Nat)(ns:List Nat):TEnt:=⟨n,p,l,ti,to.Den,F,resF T rs k to ns⟩
def okI {tbl:Nat→Option TEnt}(htbl:TbOk Tryz.prog tbl){f:FuncId}{fn:Func}{c:Code}{rs:List ResultVar}{n:Nat}{pure:Bool}{ps:List (Nat×List Nat)}{inS out:SPat}{ns:List Nat}{k:Nat}(pl:Nat→List Nat×Plan)(iv:Nat→Option SPat)
 (hf:Tryz.prog.funcs[f]? = some fn) (hb:fn.body=some c) (hc:∀(vs:Array Value) (w:World),(callFunc f vs).run Tryz.prog w = .ok (.enter f vs) w) {F:inS.Den→Option out.Den}
 (hrs:fn.results=rs.toArray:=by rfl) (hn:fn.ntmps=n:=by rfl) (hp:zBw T pl c=true:=by kernel_rfl) (hin:inOk n inS ns=true:=by kernel_rfl)
 (hF:∀x,funT T tbl pl n iv c inS out x=F x:=by intro _;kernel_rfl):TbOk Tryz.prog (insT k ⟨f,pure,ps,inS,out.Den,F,resF T rs n out ns⟩ tbl) :=
 htbl.ins (zXO htbl layOk mixed pure ps inS out ns pl iv hf hb hrs hn hp hin hc F fun x _ h=>(hF x).trans h)

end
end Go.Proofs.YtdpapeledldifaaGreat
