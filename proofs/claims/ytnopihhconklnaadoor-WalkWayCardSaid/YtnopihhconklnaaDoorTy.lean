import Derived.Test.YtnopihhconklnaaDoorEn11
import Derived.Test.YtnopihhconklnaaDoorProg
/- What the types of this seat say. -/
namespace Go.Proofs.YtnopihhconklnaaDoor.T
open Go Go.En Go.Proofs
theorem ty0 : lay Tryd.prog 0 = some (false, 1) := by kernel_rfl
theorem tyb0 : byOf Tryd.prog 0 = some 0 := by kernel_rfl
theorem ty1 : lay Tryd.prog 1 = some (false, 1) := by kernel_rfl
theorem tyz1 : zc Tryd.prog 1 = some [.v .nilFunc] := by kernel_rfl
theorem tyb1 : byOf Tryd.prog 1 = some 8 := by kernel_rfl
theorem ty2 : lay Tryd.prog 2 = some (false, 1) := by kernel_rfl
theorem tyz2 : zc Tryd.prog 2 = some [.v (.int .i64 0)] := by kernel_rfl
theorem tyb2 : byOf Tryd.prog 2 = some 8 := by kernel_rfl
theorem ty3 : lay Tryd.prog 3 = some (false, 1) := by kernel_rfl
theorem tyz3 : zc Tryd.prog 3 = some [.v (.int .i64 0)] := by kernel_rfl
theorem tyb3 : byOf Tryd.prog 3 = some 8 := by kernel_rfl
theorem ty4 : lay Tryd.prog 4 = some (false, 1) := by kernel_rfl
theorem tyzb4 : zb Tryd.prog 4 = true := by kernel_rfl
theorem tyz4 : zc Tryd.prog 4 = some [.v (.bool false)] := by kernel_rfl
theorem tyb4 : byOf Tryd.prog 4 = some 1 := by kernel_rfl
theorem ty5 : lay Tryd.prog 5 = some (false, 1) := by kernel_rfl
theorem tyz5 : zc Tryd.prog 5 = some [.v (.int .u8 0)] := by kernel_rfl
theorem tyb5 : byOf Tryd.prog 5 = some 1 := by kernel_rfl
theorem ty6 : lay Tryd.prog 6 = some (false, 1) := by kernel_rfl
theorem tyz6 : zc Tryd.prog 6 = some [.v (.int .u8 0)] := by kernel_rfl
theorem tyb6 : byOf Tryd.prog 6 = some 1 := by kernel_rfl
theorem ty7 : lay Tryd.prog 7 = some (true, 4) := by kernel_rfl
theorem tyf7 : pls Tryd.prog 7 = some [(0, 1, 2), (1, 1, 3), (2, 1, 4), (3, 1, 6)] := by kernel_rfl
theorem tyz7 : zc Tryd.prog 7 = some [.v (.int .i64 0), .v (.int .i64 0), .v (.bool false), .v (.int .u8 0)] := by kernel_rfl
theorem tyb7 : byOf Tryd.prog 7 = some 24 := by kernel_rfl
theorem ty8 : lay Tryd.prog 8 = some (true, 4) := by kernel_rfl
theorem tyf8 : pls Tryd.prog 8 = some [(0, 1, 2), (1, 1, 3), (2, 1, 4), (3, 1, 6)] := by kernel_rfl
theorem tyz8 : zc Tryd.prog 8 = some [.v (.int .i64 0), .v (.int .i64 0), .v (.bool false), .v (.int .u8 0)] := by kernel_rfl
theorem tyb8 : byOf Tryd.prog 8 = some 24 := by kernel_rfl
theorem ty9 : lay Tryd.prog 9 = some (false, 1) := by kernel_rfl
theorem tyz9 : zc Tryd.prog 9 = some [.v (.string .empty)] := by kernel_rfl
theorem tyb9 : byOf Tryd.prog 9 = some 16 := by kernel_rfl
theorem ty10 : lay Tryd.prog 10 = some (false, 1) := by kernel_rfl
theorem tyz10 : zc Tryd.prog 10 = some [.v (.string .empty)] := by kernel_rfl
theorem tyb10 : byOf Tryd.prog 10 = some 16 := by kernel_rfl
theorem ty11 : lay Tryd.prog 11 = some (false, 1) := by kernel_rfl
theorem tyz11 : zc Tryd.prog 11 = some [.v (.string .empty)] := by kernel_rfl
theorem tyb11 : byOf Tryd.prog 11 = some 16 := by kernel_rfl
theorem ty12 : lay Tryd.prog 12 = some (false, 1) := by kernel_rfl
theorem tyz12 : zc Tryd.prog 12 = some [.v (.int .u64 0)] := by kernel_rfl
theorem tyb12 : byOf Tryd.prog 12 = some 8 := by kernel_rfl
theorem ty13 : lay Tryd.prog 13 = some (true, 2) := by kernel_rfl
theorem tyf13 : pls Tryd.prog 13 = some [(0, 1, 9), (1, 1, 12)] := by kernel_rfl
theorem tyz13 : zc Tryd.prog 13 = some [.v (.string .empty), .v (.int .u64 0)] := by kernel_rfl
theorem tyb13 : byOf Tryd.prog 13 = some 24 := by kernel_rfl
theorem ty14 : lay Tryd.prog 14 = some (true, 2) := by kernel_rfl
theorem tyf14 : pls Tryd.prog 14 = some [(0, 1, 9), (1, 1, 12)] := by kernel_rfl
theorem tyz14 : zc Tryd.prog 14 = some [.v (.string .empty), .v (.int .u64 0)] := by kernel_rfl
theorem tyb14 : byOf Tryd.prog 14 = some 24 := by kernel_rfl
theorem ty15 : lay Tryd.prog 15 = some (false, 1) := by kernel_rfl
theorem tyz15 : zc Tryd.prog 15 = some [.v (.pointer none)] := by kernel_rfl
theorem tyb15 : byOf Tryd.prog 15 = some 8 := by kernel_rfl
theorem ty16 : lay Tryd.prog 16 = some (false, 1) := by kernel_rfl
theorem tyz16 : zc Tryd.prog 16 = some [.v (.pointer none)] := by kernel_rfl
theorem tyb16 : byOf Tryd.prog 16 = some 8 := by kernel_rfl
theorem ty17 : lay Tryd.prog 17 = some (false, 1) := by kernel_rfl
theorem tyz17 : zc Tryd.prog 17 = some [.v (.pointer none)] := by kernel_rfl
theorem tyb17 : byOf Tryd.prog 17 = some 8 := by kernel_rfl
theorem ty18 : lay Tryd.prog 18 = some (true, 1) := by kernel_rfl
theorem tyf18 : pls Tryd.prog 18 = some [(0, 1, 17)] := by kernel_rfl
theorem tyz18 : zc Tryd.prog 18 = some [.v (.pointer none)] := by kernel_rfl
theorem tyb18 : byOf Tryd.prog 18 = some 8 := by kernel_rfl
theorem ty19 : lay Tryd.prog 19 = some (true, 1) := by kernel_rfl
theorem tyf19 : pls Tryd.prog 19 = some [(0, 1, 17)] := by kernel_rfl
theorem tyz19 : zc Tryd.prog 19 = some [.v (.pointer none)] := by kernel_rfl
theorem tyb19 : byOf Tryd.prog 19 = some 8 := by kernel_rfl
theorem ty20 : lay Tryd.prog 20 = some (false, 1) := by kernel_rfl
theorem tyz20 : zc Tryd.prog 20 = some [.v .nilIface] := by kernel_rfl
theorem tyb20 : byOf Tryd.prog 20 = some 16 := by kernel_rfl
theorem ty21 : lay Tryd.prog 21 = some (false, 1) := by kernel_rfl
theorem tyz21 : zc Tryd.prog 21 = some [.v (.int .i32 0)] := by kernel_rfl
theorem tyb21 : byOf Tryd.prog 21 = some 4 := by kernel_rfl
theorem ty22 : lay Tryd.prog 22 = some (false, 1) := by kernel_rfl
theorem tyz22 : zc Tryd.prog 22 = some [.e0] := by kernel_rfl
theorem tyb22 : byOf Tryd.prog 22 = some 24 := by kernel_rfl
theorem ty23 : lay Tryd.prog 23 = some (false, 1) := by kernel_rfl
theorem tyz23 : zc Tryd.prog 23 = some [.e0] := by kernel_rfl
theorem tyb23 : byOf Tryd.prog 23 = some 24 := by kernel_rfl
theorem ty24 : lay Tryd.prog 24 = some (true, 2) := by kernel_rfl
theorem tyf24 : pls Tryd.prog 24 = some [(0, 1, 22), (1, 1, 23)] := by kernel_rfl
theorem tyz24 : zc Tryd.prog 24 = some [.e0, .e0] := by kernel_rfl
theorem tyb24 : byOf Tryd.prog 24 = some 48 := by kernel_rfl
theorem ty25 : lay Tryd.prog 25 = some (true, 2) := by kernel_rfl
theorem tyf25 : pls Tryd.prog 25 = some [(0, 1, 22), (1, 1, 23)] := by kernel_rfl
theorem tyz25 : zc Tryd.prog 25 = some [.e0, .e0] := by kernel_rfl
theorem tyb25 : byOf Tryd.prog 25 = some 48 := by kernel_rfl
theorem ty26 : lay Tryd.prog 26 = some (false, 1) := by kernel_rfl
theorem tyz26 : zc Tryd.prog 26 = some [.v (.int .u64 0)] := by kernel_rfl
theorem tyb26 : byOf Tryd.prog 26 = some 8 := by kernel_rfl
theorem ty27 : lay Tryd.prog 27 = some (true, 2) := by kernel_rfl
theorem tyf27 : pls Tryd.prog 27 = some [(0, 1, 26), (1, 1, 26)] := by kernel_rfl
theorem tyz27 : zc Tryd.prog 27 = some [.v (.int .u64 0), .v (.int .u64 0)] := by kernel_rfl
theorem tyb27 : byOf Tryd.prog 27 = some 16 := by kernel_rfl
theorem ty28 : lay Tryd.prog 28 = some (true, 2) := by kernel_rfl
theorem tyf28 : pls Tryd.prog 28 = some [(0, 1, 26), (1, 1, 26)] := by kernel_rfl
theorem tyz28 : zc Tryd.prog 28 = some [.v (.int .u64 0), .v (.int .u64 0)] := by kernel_rfl
theorem tyq28 : eqk Tryd.prog 28 = some [0, 0] := by kernel_rfl
theorem tyb28 : byOf Tryd.prog 28 = some 16 := by kernel_rfl
theorem ty29 : lay Tryd.prog 29 = some (false, 1) := by kernel_rfl
theorem tyz29 : zc Tryd.prog 29 = some [.e0] := by kernel_rfl
theorem tyb29 : byOf Tryd.prog 29 = some 24 := by kernel_rfl
theorem ty30 : lay Tryd.prog 30 = some (false, 1) := by kernel_rfl
theorem tyz30 : zc Tryd.prog 30 = some [.v (.int .u8 0)] := by kernel_rfl
theorem tyb30 : byOf Tryd.prog 30 = some 1 := by kernel_rfl
theorem ty31 : lay Tryd.prog 31 = some (true, 2) := by kernel_rfl
theorem tyf31 : pls Tryd.prog 31 = some [(0, 1, 30), (1, 1, 3)] := by kernel_rfl
theorem tyz31 : zc Tryd.prog 31 = some [.v (.int .u8 0), .v (.int .i64 0)] := by kernel_rfl
theorem tyb31 : byOf Tryd.prog 31 = some 16 := by kernel_rfl
theorem ty32 : lay Tryd.prog 32 = some (true, 2) := by kernel_rfl
theorem tyf32 : pls Tryd.prog 32 = some [(0, 1, 30), (1, 1, 3)] := by kernel_rfl
theorem tyz32 : zc Tryd.prog 32 = some [.v (.int .u8 0), .v (.int .i64 0)] := by kernel_rfl
theorem tyq32 : eqk Tryd.prog 32 = some [0, 0] := by kernel_rfl
theorem tyb32 : byOf Tryd.prog 32 = some 16 := by kernel_rfl
theorem ty33 : lay Tryd.prog 33 = some (false, 1) := by kernel_rfl
theorem tyz33 : zc Tryd.prog 33 = some [.v (.int .i64 0)] := by kernel_rfl
theorem tyb33 : byOf Tryd.prog 33 = some 8 := by kernel_rfl
theorem ty34 : lay Tryd.prog 34 = some (false, 1) := by kernel_rfl
theorem tyb34 : byOf Tryd.prog 34 = some 0 := by kernel_rfl
theorem ty35 : lay Tryd.prog 35 = some (false, 1) := by kernel_rfl
theorem tyz35 : zc Tryd.prog 35 = some [.v .nilFunc] := by kernel_rfl
theorem tyb35 : byOf Tryd.prog 35 = some 8 := by kernel_rfl
theorem ty36 : lay Tryd.prog 36 = some (false, 1) := by kernel_rfl
theorem tyb36 : byOf Tryd.prog 36 = some 0 := by kernel_rfl
theorem ty37 : lay Tryd.prog 37 = some (false, 1) := by kernel_rfl
theorem tyz37 : zc Tryd.prog 37 = some [.v .nilFunc] := by kernel_rfl
theorem tyb37 : byOf Tryd.prog 37 = some 8 := by kernel_rfl
theorem ty38 : lay Tryd.prog 38 = some (false, 1) := by kernel_rfl
theorem tyb38 : byOf Tryd.prog 38 = some 0 := by kernel_rfl
theorem ty39 : lay Tryd.prog 39 = some (false, 1) := by kernel_rfl
theorem tyz39 : zc Tryd.prog 39 = some [.v .nilFunc] := by kernel_rfl
theorem tyb39 : byOf Tryd.prog 39 = some 8 := by kernel_rfl
theorem ty40 : lay Tryd.prog 40 = some (false, 1) := by kernel_rfl
theorem tyz40 : zc Tryd.prog 40 = some [.v .nilFunc] := by kernel_rfl
theorem tyb40 : byOf Tryd.prog 40 = some 8 := by kernel_rfl
theorem ty41 : lay Tryd.prog 41 = some (false, 1) := by kernel_rfl
theorem tyz41 : zc Tryd.prog 41 = some [.v .nilFunc] := by kernel_rfl
theorem tyb41 : byOf Tryd.prog 41 = some 8 := by kernel_rfl
theorem ty42 : lay Tryd.prog 42 = some (false, 1) := by kernel_rfl
theorem tyz42 : zc Tryd.prog 42 = some [.v .nilFunc] := by kernel_rfl
theorem tyb42 : byOf Tryd.prog 42 = some 8 := by kernel_rfl
theorem ty43 : lay Tryd.prog 43 = some (false, 1) := by kernel_rfl
theorem tyz43 : zc Tryd.prog 43 = some [.v .nilFunc] := by kernel_rfl
theorem tyb43 : byOf Tryd.prog 43 = some 8 := by kernel_rfl
theorem ty44 : lay Tryd.prog 44 = some (false, 1) := by kernel_rfl
theorem tyz44 : zc Tryd.prog 44 = some [.v (.int .u8 0)] := by kernel_rfl
theorem tyb44 : byOf Tryd.prog 44 = some 1 := by kernel_rfl
theorem ty45 : lay Tryd.prog 45 = some (true, 2) := by kernel_rfl
theorem tyf45 : pls Tryd.prog 45 = some [(0, 1, 44), (1, 1, 3)] := by kernel_rfl
theorem tyz45 : zc Tryd.prog 45 = some [.v (.int .u8 0), .v (.int .i64 0)] := by kernel_rfl
theorem tyb45 : byOf Tryd.prog 45 = some 16 := by kernel_rfl
theorem ty46 : lay Tryd.prog 46 = some (true, 2) := by kernel_rfl
theorem tyf46 : pls Tryd.prog 46 = some [(0, 1, 44), (1, 1, 3)] := by kernel_rfl
theorem tyz46 : zc Tryd.prog 46 = some [.v (.int .u8 0), .v (.int .i64 0)] := by kernel_rfl
theorem tyq46 : eqk Tryd.prog 46 = some [0, 0] := by kernel_rfl
theorem tyb46 : byOf Tryd.prog 46 = some 16 := by kernel_rfl
theorem ty47 : lay Tryd.prog 47 = some (false, 1) := by kernel_rfl
theorem tyb47 : byOf Tryd.prog 47 = some 0 := by kernel_rfl
theorem ty48 : lay Tryd.prog 48 = some (false, 1) := by kernel_rfl
theorem tyz48 : zc Tryd.prog 48 = some [.v .nilFunc] := by kernel_rfl
theorem tyb48 : byOf Tryd.prog 48 = some 8 := by kernel_rfl
theorem ty49 : lay Tryd.prog 49 = some (false, 1) := by kernel_rfl
theorem tyz49 : zc Tryd.prog 49 = some [.v (.pointer none)] := by kernel_rfl
theorem tyb49 : byOf Tryd.prog 49 = some 8 := by kernel_rfl
theorem ty50 : lay Tryd.prog 50 = some (false, 1) := by kernel_rfl
theorem tyb50 : byOf Tryd.prog 50 = some 0 := by kernel_rfl
theorem ty51 : lay Tryd.prog 51 = some (false, 1) := by kernel_rfl
theorem tyz51 : zc Tryd.prog 51 = some [.v .nilFunc] := by kernel_rfl
theorem tyb51 : byOf Tryd.prog 51 = some 8 := by kernel_rfl
theorem ty52 : lay Tryd.prog 52 = some (false, 1) := by kernel_rfl
theorem tyb52 : byOf Tryd.prog 52 = some 0 := by kernel_rfl
theorem ty53 : lay Tryd.prog 53 = some (false, 1) := by kernel_rfl
theorem tyz53 : zc Tryd.prog 53 = some [.v .nilFunc] := by kernel_rfl
theorem tyb53 : byOf Tryd.prog 53 = some 8 := by kernel_rfl
theorem ty54 : lay Tryd.prog 54 = some (false, 1) := by kernel_rfl
theorem tyz54 : zc Tryd.prog 54 = some [.v .nilFunc] := by kernel_rfl
theorem tyb54 : byOf Tryd.prog 54 = some 8 := by kernel_rfl
theorem ty55 : lay Tryd.prog 55 = some (false, 1) := by kernel_rfl
theorem tyz55 : zc Tryd.prog 55 = some [.v .nilFunc] := by kernel_rfl
theorem tyb55 : byOf Tryd.prog 55 = some 8 := by kernel_rfl
theorem ty56 : lay Tryd.prog 56 = some (false, 1) := by kernel_rfl
theorem tyz56 : zc Tryd.prog 56 = some [.v .nilFunc] := by kernel_rfl
theorem tyb56 : byOf Tryd.prog 56 = some 8 := by kernel_rfl
theorem ty57 : lay Tryd.prog 57 = some (false, 1) := by kernel_rfl
theorem tyz57 : zc Tryd.prog 57 = some [.v .nilFunc] := by kernel_rfl
theorem tyb57 : byOf Tryd.prog 57 = some 8 := by kernel_rfl
theorem ty58 : lay Tryd.prog 58 = some (false, 1) := by kernel_rfl
theorem tyz58 : zc Tryd.prog 58 = some [.v .nilFunc] := by kernel_rfl
theorem tyb58 : byOf Tryd.prog 58 = some 8 := by kernel_rfl
theorem ty59 : lay Tryd.prog 59 = some (false, 1) := by kernel_rfl
theorem tyz59 : zc Tryd.prog 59 = some [.v .nilFunc] := by kernel_rfl
theorem tyb59 : byOf Tryd.prog 59 = some 8 := by kernel_rfl
theorem ty60 : lay Tryd.prog 60 = some (false, 1) := by kernel_rfl
theorem tyz60 : zc Tryd.prog 60 = some [.v .nilFunc] := by kernel_rfl
theorem tyb60 : byOf Tryd.prog 60 = some 8 := by kernel_rfl
theorem ty61 : lay Tryd.prog 61 = some (false, 1) := by kernel_rfl
theorem tyz61 : zc Tryd.prog 61 = some [.e0] := by kernel_rfl
theorem tyb61 : byOf Tryd.prog 61 = some 24 := by kernel_rfl
theorem ty62 : lay Tryd.prog 62 = some (false, 1) := by kernel_rfl
theorem tyz62 : zc Tryd.prog 62 = some [.e0] := by kernel_rfl
theorem tyb62 : byOf Tryd.prog 62 = some 24 := by kernel_rfl
theorem ty63 : lay Tryd.prog 63 = some (true, 4) := by kernel_rfl
theorem tyf63 : pls Tryd.prog 63 = some [(0, 1, 3), (1, 1, 4), (2, 1, 61), (3, 1, 62)] := by kernel_rfl
theorem tyz63 : zc Tryd.prog 63 = some [.v (.int .i64 0), .v (.bool false), .e0, .e0] := by kernel_rfl
theorem tyb63 : byOf Tryd.prog 63 = some 64 := by kernel_rfl
theorem ty64 : lay Tryd.prog 64 = some (true, 4) := by kernel_rfl
theorem tyf64 : pls Tryd.prog 64 = some [(0, 1, 3), (1, 1, 4), (2, 1, 61), (3, 1, 62)] := by kernel_rfl
theorem tyz64 : zc Tryd.prog 64 = some [.v (.int .i64 0), .v (.bool false), .e0, .e0] := by kernel_rfl
theorem tyb64 : byOf Tryd.prog 64 = some 64 := by kernel_rfl
theorem ty65 : lay Tryd.prog 65 = some (false, 1) := by kernel_rfl
theorem tyz65 : zc Tryd.prog 65 = some [.v .nilFunc] := by kernel_rfl
theorem tyb65 : byOf Tryd.prog 65 = some 8 := by kernel_rfl
theorem ty66 : lay Tryd.prog 66 = some (true, 4) := by kernel_rfl
theorem tyf66 : pls Tryd.prog 66 = some [(0, 1, 3), (1, 1, 26), (2, 1, 2), (3, 1, 4)] := by kernel_rfl
theorem tyz66 : zc Tryd.prog 66 = some [.v (.int .i64 0), .v (.int .u64 0), .v (.int .i64 0), .v (.bool false)] := by kernel_rfl
theorem tyb66 : byOf Tryd.prog 66 = some 32 := by kernel_rfl
theorem ty67 : lay Tryd.prog 67 = some (true, 4) := by kernel_rfl
theorem tyf67 : pls Tryd.prog 67 = some [(0, 1, 3), (1, 1, 26), (2, 1, 2), (3, 1, 4)] := by kernel_rfl
theorem tyz67 : zc Tryd.prog 67 = some [.v (.int .i64 0), .v (.int .u64 0), .v (.int .i64 0), .v (.bool false)] := by kernel_rfl
theorem tyq67 : eqk Tryd.prog 67 = some [0, 0, 0, 1] := by kernel_rfl
theorem tyb67 : byOf Tryd.prog 67 = some 32 := by kernel_rfl
theorem ty68 : lay Tryd.prog 68 = some (false, 1) := by kernel_rfl
theorem tyz68 : zc Tryd.prog 68 = some [.v .nilFunc] := by kernel_rfl
theorem tyb68 : byOf Tryd.prog 68 = some 8 := by kernel_rfl
theorem ty69 : lay Tryd.prog 69 = some (true, 5) := by kernel_rfl
theorem tyf69 : pls Tryd.prog 69 = some [(0, 2, 25), (2, 1, 4), (3, 2, 28)] := by kernel_rfl
theorem tyz69 : zc Tryd.prog 69 = some [.e0, .e0, .v (.bool false), .v (.int .u64 0), .v (.int .u64 0)] := by kernel_rfl
theorem tyb69 : byOf Tryd.prog 69 = some 72 := by kernel_rfl
theorem ty70 : lay Tryd.prog 70 = some (true, 5) := by kernel_rfl
theorem tyf70 : pls Tryd.prog 70 = some [(0, 2, 25), (2, 1, 4), (3, 2, 28)] := by kernel_rfl
theorem tyz70 : zc Tryd.prog 70 = some [.e0, .e0, .v (.bool false), .v (.int .u64 0), .v (.int .u64 0)] := by kernel_rfl
theorem tyb70 : byOf Tryd.prog 70 = some 72 := by kernel_rfl
theorem ty71 : lay Tryd.prog 71 = some (false, 1) := by kernel_rfl
theorem tyz71 : zc Tryd.prog 71 = some [.v (.map none)] := by kernel_rfl
theorem tyb71 : byOf Tryd.prog 71 = some 8 := by kernel_rfl
theorem ty72 : lay Tryd.prog 72 = some (false, 1) := by kernel_rfl
theorem tyz72 : zc Tryd.prog 72 = some [.v .nilFunc] := by kernel_rfl
theorem tyb72 : byOf Tryd.prog 72 = some 8 := by kernel_rfl
theorem ty73 : lay Tryd.prog 73 = some (false, 1) := by kernel_rfl
theorem tyz73 : zc Tryd.prog 73 = some [.v .nilFunc] := by kernel_rfl
theorem tyb73 : byOf Tryd.prog 73 = some 8 := by kernel_rfl
theorem ty74 : lay Tryd.prog 74 = some (false, 1) := by kernel_rfl
theorem tyz74 : zc Tryd.prog 74 = some [.v .nilFunc] := by kernel_rfl
theorem tyb74 : byOf Tryd.prog 74 = some 8 := by kernel_rfl
theorem ty75 : lay Tryd.prog 75 = some (true, 4) := by kernel_rfl
theorem tyf75 : pls Tryd.prog 75 = none := by kernel_rfl
theorem tyz75 : zc Tryd.prog 75 = some [.v (.int .u8 0), .v (.int .u8 0), .v (.int .u8 0), .v (.int .u8 0)] := by kernel_rfl
theorem tyb75 : byOf Tryd.prog 75 = some 4 := by kernel_rfl
theorem ty76 : lay Tryd.prog 76 = some (false, 1) := by kernel_rfl
theorem tyz76 : zc Tryd.prog 76 = some [.v .nilFunc] := by kernel_rfl
theorem tyb76 : byOf Tryd.prog 76 = some 8 := by kernel_rfl
theorem ty77 : lay Tryd.prog 77 = some (false, 1) := by kernel_rfl
theorem tyz77 : zc Tryd.prog 77 = some [.v .nilFunc] := by kernel_rfl
theorem tyb77 : byOf Tryd.prog 77 = some 8 := by kernel_rfl
theorem ty78 : lay Tryd.prog 78 = some (false, 1) := by kernel_rfl
theorem tyz78 : zc Tryd.prog 78 = some [.v .nilFunc] := by kernel_rfl
theorem tyb78 : byOf Tryd.prog 78 = some 8 := by kernel_rfl
theorem ty79 : lay Tryd.prog 79 = some (false, 1) := by kernel_rfl
theorem tyz79 : zc Tryd.prog 79 = some [.v (.int .u8 0)] := by kernel_rfl
theorem tyb79 : byOf Tryd.prog 79 = some 1 := by kernel_rfl
theorem ty80 : lay Tryd.prog 80 = some (true, 2) := by kernel_rfl
theorem tyf80 : pls Tryd.prog 80 = some [(0, 1, 79), (1, 1, 3)] := by kernel_rfl
theorem tyz80 : zc Tryd.prog 80 = some [.v (.int .u8 0), .v (.int .i64 0)] := by kernel_rfl
theorem tyb80 : byOf Tryd.prog 80 = some 16 := by kernel_rfl
theorem ty81 : lay Tryd.prog 81 = some (true, 2) := by kernel_rfl
theorem tyf81 : pls Tryd.prog 81 = some [(0, 1, 79), (1, 1, 3)] := by kernel_rfl
theorem tyz81 : zc Tryd.prog 81 = some [.v (.int .u8 0), .v (.int .i64 0)] := by kernel_rfl
theorem tyq81 : eqk Tryd.prog 81 = some [0, 0] := by kernel_rfl
theorem tyb81 : byOf Tryd.prog 81 = some 16 := by kernel_rfl
theorem ty82 : lay Tryd.prog 82 = some (true, 4) := by kernel_rfl
theorem tyf82 : pls Tryd.prog 82 = some [(0, 1, 4), (1, 2, 28), (3, 1, 3)] := by kernel_rfl
theorem tyz82 : zc Tryd.prog 82 = some [.v (.bool false), .v (.int .u64 0), .v (.int .u64 0), .v (.int .i64 0)] := by kernel_rfl
theorem tyb82 : byOf Tryd.prog 82 = some 32 := by kernel_rfl
theorem ty83 : lay Tryd.prog 83 = some (true, 4) := by kernel_rfl
theorem tyf83 : pls Tryd.prog 83 = some [(0, 1, 4), (1, 2, 28), (3, 1, 3)] := by kernel_rfl
theorem tyz83 : zc Tryd.prog 83 = some [.v (.bool false), .v (.int .u64 0), .v (.int .u64 0), .v (.int .i64 0)] := by kernel_rfl
theorem tyq83 : eqk Tryd.prog 83 = some [1, 0, 0, 0] := by kernel_rfl
theorem tyb83 : byOf Tryd.prog 83 = some 32 := by kernel_rfl
theorem ty84 : lay Tryd.prog 84 = some (true, 6) := by kernel_rfl
theorem tyf84 : pls Tryd.prog 84 = some [(0, 4, 83), (4, 2, 81)] := by kernel_rfl
theorem tyz84 : zc Tryd.prog 84 = some [.v (.bool false), .v (.int .u64 0), .v (.int .u64 0), .v (.int .i64 0), .v (.int .u8 0), .v (.int .i64 0)] := by kernel_rfl
theorem tyb84 : byOf Tryd.prog 84 = some 48 := by kernel_rfl
theorem ty85 : lay Tryd.prog 85 = some (true, 6) := by kernel_rfl
theorem tyf85 : pls Tryd.prog 85 = some [(0, 4, 83), (4, 2, 81)] := by kernel_rfl
theorem tyz85 : zc Tryd.prog 85 = some [.v (.bool false), .v (.int .u64 0), .v (.int .u64 0), .v (.int .i64 0), .v (.int .u8 0), .v (.int .i64 0)] := by kernel_rfl
theorem tyq85 : eqk Tryd.prog 85 = some [1, 0, 0, 0, 0, 0] := by kernel_rfl
theorem tyb85 : byOf Tryd.prog 85 = some 48 := by kernel_rfl
theorem ty86 : lay Tryd.prog 86 = some (true, 2) := by kernel_rfl
theorem tyf86 : pls Tryd.prog 86 = some [(0, 1, 3), (1, 1, 3)] := by kernel_rfl
theorem tyz86 : zc Tryd.prog 86 = some [.v (.int .i64 0), .v (.int .i64 0)] := by kernel_rfl
theorem tyb86 : byOf Tryd.prog 86 = some 16 := by kernel_rfl
theorem ty87 : lay Tryd.prog 87 = some (true, 2) := by kernel_rfl
theorem tyf87 : pls Tryd.prog 87 = some [(0, 1, 3), (1, 1, 3)] := by kernel_rfl
theorem tyz87 : zc Tryd.prog 87 = some [.v (.int .i64 0), .v (.int .i64 0)] := by kernel_rfl
theorem tyq87 : eqk Tryd.prog 87 = some [0, 0] := by kernel_rfl
theorem tyb87 : byOf Tryd.prog 87 = some 16 := by kernel_rfl
theorem ty88 : lay Tryd.prog 88 = some (false, 1) := by kernel_rfl
theorem tyz88 : zc Tryd.prog 88 = some [.v (.int .u64 0)] := by kernel_rfl
theorem tyb88 : byOf Tryd.prog 88 = some 8 := by kernel_rfl
theorem ty89 : lay Tryd.prog 89 = some (false, 1) := by kernel_rfl
theorem tyb89 : byOf Tryd.prog 89 = some 0 := by kernel_rfl
theorem ty90 : lay Tryd.prog 90 = some (false, 1) := by kernel_rfl
theorem tyz90 : zc Tryd.prog 90 = some [.v .nilFunc] := by kernel_rfl
theorem tyb90 : byOf Tryd.prog 90 = some 8 := by kernel_rfl
theorem ty91 : lay Tryd.prog 91 = some (false, 1) := by kernel_rfl
theorem tyz91 : zc Tryd.prog 91 = some [.v .nilFunc] := by kernel_rfl
theorem tyb91 : byOf Tryd.prog 91 = some 8 := by kernel_rfl
theorem ty92 : lay Tryd.prog 92 = some (false, 1) := by kernel_rfl
theorem tyz92 : zc Tryd.prog 92 = some [.v .nilFunc] := by kernel_rfl
theorem tyb92 : byOf Tryd.prog 92 = some 8 := by kernel_rfl
theorem ty93 : lay Tryd.prog 93 = some (false, 1) := by kernel_rfl
theorem tyz93 : zc Tryd.prog 93 = some [.v .nilFunc] := by kernel_rfl
theorem tyb93 : byOf Tryd.prog 93 = some 8 := by kernel_rfl
theorem ty94 : lay Tryd.prog 94 = some (false, 1) := by kernel_rfl
theorem tyz94 : zc Tryd.prog 94 = some [.v .nilFunc] := by kernel_rfl
theorem tyb94 : byOf Tryd.prog 94 = some 8 := by kernel_rfl
theorem ty95 : lay Tryd.prog 95 = some (false, 1) := by kernel_rfl
theorem tyb95 : byOf Tryd.prog 95 = some 0 := by kernel_rfl
theorem ty96 : lay Tryd.prog 96 = some (false, 1) := by kernel_rfl
theorem tyz96 : zc Tryd.prog 96 = some [.v .nilFunc] := by kernel_rfl
theorem tyb96 : byOf Tryd.prog 96 = some 8 := by kernel_rfl
theorem ty97 : lay Tryd.prog 97 = some (false, 1) := by kernel_rfl
theorem tyz97 : zc Tryd.prog 97 = some [.v .nilFunc] := by kernel_rfl
theorem tyb97 : byOf Tryd.prog 97 = some 8 := by kernel_rfl
theorem ty98 : lay Tryd.prog 98 = some (false, 1) := by kernel_rfl
theorem tyz98 : zc Tryd.prog 98 = some [.v .nilFunc] := by kernel_rfl
theorem tyb98 : byOf Tryd.prog 98 = some 8 := by kernel_rfl
theorem ty99 : lay Tryd.prog 99 = some (false, 1) := by kernel_rfl
theorem tyz99 : zc Tryd.prog 99 = some [.v .nilFunc] := by kernel_rfl
theorem tyb99 : byOf Tryd.prog 99 = some 8 := by kernel_rfl
theorem ty100 : lay Tryd.prog 100 = some (false, 1) := by kernel_rfl
theorem tyz100 : zc Tryd.prog 100 = some [.v .nilFunc] := by kernel_rfl
theorem tyb100 : byOf Tryd.prog 100 = some 8 := by kernel_rfl
theorem ty101 : lay Tryd.prog 101 = some (false, 1) := by kernel_rfl
theorem tyz101 : zc Tryd.prog 101 = some [.v .nilFunc] := by kernel_rfl
theorem tyb101 : byOf Tryd.prog 101 = some 8 := by kernel_rfl
theorem ty102 : lay Tryd.prog 102 = some (false, 1) := by kernel_rfl
theorem tyb102 : byOf Tryd.prog 102 = some 0 := by kernel_rfl
theorem ty103 : lay Tryd.prog 103 = some (false, 1) := by kernel_rfl
theorem tyz103 : zc Tryd.prog 103 = some [.v (.pointer none)] := by kernel_rfl
theorem tyb103 : byOf Tryd.prog 103 = some 8 := by kernel_rfl
theorem ty104 : lay Tryd.prog 104 = some (false, 1) := by kernel_rfl
theorem tyz104 : zc Tryd.prog 104 = some [.v .nilFunc] := by kernel_rfl
theorem tyb104 : byOf Tryd.prog 104 = some 8 := by kernel_rfl
theorem ty105 : lay Tryd.prog 105 = some (false, 1) := by kernel_rfl
theorem tyz105 : zc Tryd.prog 105 = some [.v .nilFunc] := by kernel_rfl
theorem tyb105 : byOf Tryd.prog 105 = some 8 := by kernel_rfl
theorem ty106 : lay Tryd.prog 106 = some (false, 1) := by kernel_rfl
theorem tyb106 : byOf Tryd.prog 106 = some 0 := by kernel_rfl
theorem ty107 : lay Tryd.prog 107 = some (false, 1) := by kernel_rfl
theorem tyz107 : zc Tryd.prog 107 = some [.v .nilFunc] := by kernel_rfl
theorem tyb107 : byOf Tryd.prog 107 = some 8 := by kernel_rfl
theorem ty108 : lay Tryd.prog 108 = some (false, 1) := by kernel_rfl
theorem tyz108 : zc Tryd.prog 108 = some [.v .nilFunc] := by kernel_rfl
theorem tyb108 : byOf Tryd.prog 108 = some 8 := by kernel_rfl
theorem ty109 : lay Tryd.prog 109 = some (false, 1) := by kernel_rfl
theorem tyz109 : zc Tryd.prog 109 = some [.v .nilFunc] := by kernel_rfl
theorem tyb109 : byOf Tryd.prog 109 = some 8 := by kernel_rfl
theorem ty110 : lay Tryd.prog 110 = some (false, 1) := by kernel_rfl
theorem tyz110 : zc Tryd.prog 110 = some [.v .nilFunc] := by kernel_rfl
theorem tyb110 : byOf Tryd.prog 110 = some 8 := by kernel_rfl
theorem ty111 : lay Tryd.prog 111 = some (false, 1) := by kernel_rfl
theorem tyz111 : zc Tryd.prog 111 = some [.v .nilFunc] := by kernel_rfl
theorem tyb111 : byOf Tryd.prog 111 = some 8 := by kernel_rfl
theorem ty112 : lay Tryd.prog 112 = some (false, 1) := by kernel_rfl
theorem tyz112 : zc Tryd.prog 112 = some [.v .nilFunc] := by kernel_rfl
theorem tyb112 : byOf Tryd.prog 112 = some 8 := by kernel_rfl
theorem ty113 : lay Tryd.prog 113 = some (false, 1) := by kernel_rfl
theorem tyz113 : zc Tryd.prog 113 = some [.v (.pointer none)] := by kernel_rfl
theorem tyb113 : byOf Tryd.prog 113 = some 8 := by kernel_rfl
theorem ty114 : lay Tryd.prog 114 = some (false, 1) := by kernel_rfl
theorem tyz114 : zc Tryd.prog 114 = some [.v (.pointer none)] := by kernel_rfl
theorem tyb114 : byOf Tryd.prog 114 = some 8 := by kernel_rfl
theorem ty115 : lay Tryd.prog 115 = some (true, 2) := by kernel_rfl
theorem tyf115 : pls Tryd.prog 115 = none := by kernel_rfl
theorem tyz115 : zc Tryd.prog 115 = some [.v (.pointer none), .v (.pointer none)] := by kernel_rfl
theorem tyb115 : byOf Tryd.prog 115 = some 16 := by kernel_rfl
theorem ty116 : lay Tryd.prog 116 = some (true, 3) := by kernel_rfl
theorem tyf116 : pls Tryd.prog 116 = some [(0, 1, 113), (1, 2, 115)] := by kernel_rfl
theorem tyz116 : zc Tryd.prog 116 = some [.v (.pointer none), .v (.pointer none), .v (.pointer none)] := by kernel_rfl
theorem tyb116 : byOf Tryd.prog 116 = some 24 := by kernel_rfl
theorem ty117 : lay Tryd.prog 117 = some (true, 3) := by kernel_rfl
theorem tyf117 : pls Tryd.prog 117 = some [(0, 1, 113), (1, 2, 115)] := by kernel_rfl
theorem tyz117 : zc Tryd.prog 117 = some [.v (.pointer none), .v (.pointer none), .v (.pointer none)] := by kernel_rfl
theorem tyb117 : byOf Tryd.prog 117 = some 24 := by kernel_rfl
theorem ty118 : lay Tryd.prog 118 = some (true, 4) := by kernel_rfl
theorem tyf118 : pls Tryd.prog 118 = some [(0, 1, 4), (1, 3, 117)] := by kernel_rfl
theorem tyz118 : zc Tryd.prog 118 = some [.v (.bool false), .v (.pointer none), .v (.pointer none), .v (.pointer none)] := by kernel_rfl
theorem tyb118 : byOf Tryd.prog 118 = some 32 := by kernel_rfl
theorem ty119 : lay Tryd.prog 119 = some (true, 4) := by kernel_rfl
theorem tyf119 : pls Tryd.prog 119 = some [(0, 1, 4), (1, 3, 117)] := by kernel_rfl
theorem tyz119 : zc Tryd.prog 119 = some [.v (.bool false), .v (.pointer none), .v (.pointer none), .v (.pointer none)] := by kernel_rfl
theorem tyb119 : byOf Tryd.prog 119 = some 32 := by kernel_rfl
theorem ty120 : lay Tryd.prog 120 = some (false, 1) := by kernel_rfl
theorem tyz120 : zc Tryd.prog 120 = some [.v .nilFunc] := by kernel_rfl
theorem tyb120 : byOf Tryd.prog 120 = some 8 := by kernel_rfl
theorem ty121 : lay Tryd.prog 121 = some (false, 1) := by kernel_rfl
theorem tyz121 : zc Tryd.prog 121 = some [.v .nilFunc] := by kernel_rfl
theorem tyb121 : byOf Tryd.prog 121 = some 8 := by kernel_rfl
theorem ty122 : lay Tryd.prog 122 = some (false, 1) := by kernel_rfl
theorem tyz122 : zc Tryd.prog 122 = some [.v .nilFunc] := by kernel_rfl
theorem tyb122 : byOf Tryd.prog 122 = some 8 := by kernel_rfl
theorem ty123 : lay Tryd.prog 123 = some (false, 1) := by kernel_rfl
theorem tyz123 : zc Tryd.prog 123 = some [.v .nilFunc] := by kernel_rfl
theorem tyb123 : byOf Tryd.prog 123 = some 8 := by kernel_rfl
theorem ty124 : lay Tryd.prog 124 = some (false, 1) := by kernel_rfl
theorem tyz124 : zc Tryd.prog 124 = some [.v .nilFunc] := by kernel_rfl
theorem tyb124 : byOf Tryd.prog 124 = some 8 := by kernel_rfl
theorem ty125 : lay Tryd.prog 125 = some (false, 1) := by kernel_rfl
theorem tyz125 : zc Tryd.prog 125 = some [.v .nilFunc] := by kernel_rfl
theorem tyb125 : byOf Tryd.prog 125 = some 8 := by kernel_rfl
theorem ty126 : lay Tryd.prog 126 = some (false, 1) := by kernel_rfl
theorem tyz126 : zc Tryd.prog 126 = some [.v .nilFunc] := by kernel_rfl
theorem tyb126 : byOf Tryd.prog 126 = some 8 := by kernel_rfl
theorem ty127 : lay Tryd.prog 127 = some (false, 1) := by kernel_rfl
theorem tyz127 : zc Tryd.prog 127 = some [.v .nilFunc] := by kernel_rfl
theorem tyb127 : byOf Tryd.prog 127 = some 8 := by kernel_rfl
theorem ty128 : lay Tryd.prog 128 = some (false, 1) := by kernel_rfl
theorem tyz128 : zc Tryd.prog 128 = some [.v .nilFunc] := by kernel_rfl
theorem tyb128 : byOf Tryd.prog 128 = some 8 := by kernel_rfl
theorem ty129 : lay Tryd.prog 129 = some (false, 1) := by kernel_rfl
theorem tyb129 : byOf Tryd.prog 129 = some 0 := by kernel_rfl
theorem ty130 : lay Tryd.prog 130 = some (false, 1) := by kernel_rfl
theorem tyz130 : zc Tryd.prog 130 = some [.v .nilFunc] := by kernel_rfl
theorem tyb130 : byOf Tryd.prog 130 = some 8 := by kernel_rfl
theorem ty131 : lay Tryd.prog 131 = some (false, 1) := by kernel_rfl
theorem tyz131 : zc Tryd.prog 131 = some [.v .nilFunc] := by kernel_rfl
theorem tyb131 : byOf Tryd.prog 131 = some 8 := by kernel_rfl
theorem ty132 : lay Tryd.prog 132 = some (false, 1) := by kernel_rfl
theorem tyz132 : zc Tryd.prog 132 = some [.v .nilFunc] := by kernel_rfl
theorem tyb132 : byOf Tryd.prog 132 = some 8 := by kernel_rfl
theorem ty133 : lay Tryd.prog 133 = some (false, 1) := by kernel_rfl
theorem tyz133 : zc Tryd.prog 133 = some [.v (.pointer none)] := by kernel_rfl
theorem tyb133 : byOf Tryd.prog 133 = some 8 := by kernel_rfl
theorem ty134 : lay Tryd.prog 134 = some (false, 1) := by kernel_rfl
theorem tyz134 : zc Tryd.prog 134 = some [.v .nilFunc] := by kernel_rfl
theorem tyb134 : byOf Tryd.prog 134 = some 8 := by kernel_rfl
theorem ty135 : lay Tryd.prog 135 = some (false, 1) := by kernel_rfl
theorem tyz135 : zc Tryd.prog 135 = some [.v .nilFunc] := by kernel_rfl
theorem tyb135 : byOf Tryd.prog 135 = some 8 := by kernel_rfl
theorem ty136 : lay Tryd.prog 136 = some (false, 1) := by kernel_rfl
theorem tyz136 : zc Tryd.prog 136 = some [.v .nilFunc] := by kernel_rfl
theorem tyb136 : byOf Tryd.prog 136 = some 8 := by kernel_rfl
theorem ty137 : lay Tryd.prog 137 = some (false, 1) := by kernel_rfl
theorem tyz137 : zc Tryd.prog 137 = some [.v .nilFunc] := by kernel_rfl
theorem tyb137 : byOf Tryd.prog 137 = some 8 := by kernel_rfl
theorem ty138 : lay Tryd.prog 138 = some (false, 1) := by kernel_rfl
theorem tyz138 : zc Tryd.prog 138 = some [.v .nilFunc] := by kernel_rfl
theorem tyb138 : byOf Tryd.prog 138 = some 8 := by kernel_rfl
theorem ty139 : lay Tryd.prog 139 = some (false, 1) := by kernel_rfl
theorem tyz139 : zc Tryd.prog 139 = some [.e0] := by kernel_rfl
theorem tyb139 : byOf Tryd.prog 139 = some 24 := by kernel_rfl
theorem ty140 : lay Tryd.prog 140 = some (false, 1) := by kernel_rfl
theorem tyz140 : zc Tryd.prog 140 = some [.v .nilFunc] := by kernel_rfl
theorem tyb140 : byOf Tryd.prog 140 = some 8 := by kernel_rfl
theorem ty141 : lay Tryd.prog 141 = some (false, 1) := by kernel_rfl
theorem tyz141 : zc Tryd.prog 141 = some [.v .nilFunc] := by kernel_rfl
theorem tyb141 : byOf Tryd.prog 141 = some 8 := by kernel_rfl
theorem ty142 : lay Tryd.prog 142 = some (false, 1) := by kernel_rfl
theorem tyz142 : zc Tryd.prog 142 = some [.v .nilFunc] := by kernel_rfl
theorem tyb142 : byOf Tryd.prog 142 = some 8 := by kernel_rfl
theorem ty143 : lay Tryd.prog 143 = some (false, 1) := by kernel_rfl
theorem tyz143 : zc Tryd.prog 143 = some [.v .nilFunc] := by kernel_rfl
theorem tyb143 : byOf Tryd.prog 143 = some 8 := by kernel_rfl
theorem ty144 : lay Tryd.prog 144 = some (false, 1) := by kernel_rfl
theorem tyz144 : zc Tryd.prog 144 = some [.v .nilFunc] := by kernel_rfl
theorem tyb144 : byOf Tryd.prog 144 = some 8 := by kernel_rfl
theorem ty145 : lay Tryd.prog 145 = some (false, 1) := by kernel_rfl
theorem tyz145 : zc Tryd.prog 145 = some [.v .nilFunc] := by kernel_rfl
theorem tyb145 : byOf Tryd.prog 145 = some 8 := by kernel_rfl
theorem ty146 : lay Tryd.prog 146 = some (false, 1) := by kernel_rfl
theorem tyz146 : zc Tryd.prog 146 = some [.v .nilFunc] := by kernel_rfl
theorem tyb146 : byOf Tryd.prog 146 = some 8 := by kernel_rfl
theorem ty147 : lay Tryd.prog 147 = some (true, 4) := by kernel_rfl
theorem tyf147 : pls Tryd.prog 147 = some [(0, 1, 17), (1, 1, 17), (2, 1, 17), (3, 1, 9)] := by kernel_rfl
theorem tyz147 : zc Tryd.prog 147 = some [.v (.pointer none), .v (.pointer none), .v (.pointer none), .v (.string .empty)] := by kernel_rfl
theorem tyb147 : byOf Tryd.prog 147 = some 40 := by kernel_rfl
theorem ty148 : lay Tryd.prog 148 = some (true, 4) := by kernel_rfl
theorem tyf148 : pls Tryd.prog 148 = some [(0, 1, 17), (1, 1, 17), (2, 1, 17), (3, 1, 9)] := by kernel_rfl
theorem tyz148 : zc Tryd.prog 148 = some [.v (.pointer none), .v (.pointer none), .v (.pointer none), .v (.string .empty)] := by kernel_rfl
theorem tyb148 : byOf Tryd.prog 148 = some 40 := by kernel_rfl
theorem ty149 : lay Tryd.prog 149 = some (true, 0) := by kernel_rfl
theorem tyf149 : pls Tryd.prog 149 = none := by kernel_rfl
theorem tyz149 : zc Tryd.prog 149 = some [] := by kernel_rfl
theorem tyb149 : byOf Tryd.prog 149 = some 0 := by kernel_rfl
theorem ty150 : lay Tryd.prog 150 = some (true, 0) := by kernel_rfl
theorem tyf150 : pls Tryd.prog 150 = some [(0, 0, 149)] := by kernel_rfl
theorem tyz150 : zc Tryd.prog 150 = some [] := by kernel_rfl
theorem tyb150 : byOf Tryd.prog 150 = some 0 := by kernel_rfl
theorem ty151 : lay Tryd.prog 151 = some (true, 0) := by kernel_rfl
theorem tyf151 : pls Tryd.prog 151 = some [(0, 0, 149)] := by kernel_rfl
theorem tyz151 : zc Tryd.prog 151 = some [] := by kernel_rfl
theorem tyb151 : byOf Tryd.prog 151 = some 0 := by kernel_rfl
theorem ty152 : lay Tryd.prog 152 = some (false, 1) := by kernel_rfl
theorem tyz152 : zc Tryd.prog 152 = some [.v .nilFunc] := by kernel_rfl
theorem tyb152 : byOf Tryd.prog 152 = some 8 := by kernel_rfl
theorem ty153 : lay Tryd.prog 153 = some (false, 1) := by kernel_rfl
theorem tyz153 : zc Tryd.prog 153 = some [.v (.int .u32 0)] := by kernel_rfl
theorem tyb153 : byOf Tryd.prog 153 = some 4 := by kernel_rfl
theorem ty154 : lay Tryd.prog 154 = some (false, 1) := by kernel_rfl
theorem tyz154 : zc Tryd.prog 154 = some [.v (.int .u8 0)] := by kernel_rfl
theorem tyb154 : byOf Tryd.prog 154 = some 1 := by kernel_rfl
theorem ty155 : lay Tryd.prog 155 = some (false, 1) := by kernel_rfl
theorem tyz155 : zc Tryd.prog 155 = some [.v (.int .u8 0)] := by kernel_rfl
theorem tyb155 : byOf Tryd.prog 155 = some 1 := by kernel_rfl
theorem ty156 : lay Tryd.prog 156 = some (false, 1) := by kernel_rfl
theorem tyz156 : zc Tryd.prog 156 = some [.v .nilFunc] := by kernel_rfl
theorem tyb156 : byOf Tryd.prog 156 = some 8 := by kernel_rfl
theorem ty157 : lay Tryd.prog 157 = some (false, 1) := by kernel_rfl
theorem tyz157 : zc Tryd.prog 157 = some [.v (.pointer none)] := by kernel_rfl
theorem tyb157 : byOf Tryd.prog 157 = some 8 := by kernel_rfl
theorem ty158 : lay Tryd.prog 158 = some (false, 1) := by kernel_rfl
theorem tyz158 : zc Tryd.prog 158 = some [.v (.int .i32 0)] := by kernel_rfl
theorem tyb158 : byOf Tryd.prog 158 = some 4 := by kernel_rfl
theorem ty159 : lay Tryd.prog 159 = some (false, 1) := by kernel_rfl
theorem tyz159 : zc Tryd.prog 159 = some [.v (.int .i32 0)] := by kernel_rfl
theorem tyb159 : byOf Tryd.prog 159 = some 4 := by kernel_rfl
theorem ty160 : lay Tryd.prog 160 = some (true, 11) := by kernel_rfl
theorem tyf160 : pls Tryd.prog 160 = some [(0, 1, 12), (1, 1, 12), (2, 1, 153), (3, 1, 154), (4, 1, 5), (5, 1, 5), (6, 1, 155), (7, 1, 156), (8, 1, 157), (9, 1, 158), (10, 1, 159)] := by kernel_rfl
theorem tyz160 : zc Tryd.prog 160 = some [.v (.int .u64 0), .v (.int .u64 0), .v (.int .u32 0), .v (.int .u8 0), .v (.int .u8 0), .v (.int .u8 0), .v (.int .u8 0), .v .nilFunc, .v (.pointer none), .v (.int .i32 0), .v (.int .i32 0)] := by kernel_rfl
theorem tyb160 : byOf Tryd.prog 160 = some 48 := by kernel_rfl
theorem ty161 : lay Tryd.prog 161 = some (true, 11) := by kernel_rfl
theorem tyf161 : pls Tryd.prog 161 = some [(0, 1, 12), (1, 1, 12), (2, 1, 153), (3, 1, 154), (4, 1, 5), (5, 1, 5), (6, 1, 155), (7, 1, 156), (8, 1, 157), (9, 1, 158), (10, 1, 159)] := by kernel_rfl
theorem tyz161 : zc Tryd.prog 161 = some [.v (.int .u64 0), .v (.int .u64 0), .v (.int .u32 0), .v (.int .u8 0), .v (.int .u8 0), .v (.int .u8 0), .v (.int .u8 0), .v .nilFunc, .v (.pointer none), .v (.int .i32 0), .v (.int .i32 0)] := by kernel_rfl
theorem tyb161 : byOf Tryd.prog 161 = some 48 := by kernel_rfl
theorem ty162 : lay Tryd.prog 162 = some (false, 1) := by kernel_rfl
theorem tyz162 : zc Tryd.prog 162 = some [.v (.pointer none)] := by kernel_rfl
theorem tyb162 : byOf Tryd.prog 162 = some 8 := by kernel_rfl
attribute [go_sem] ty0 tyb0 ty1 tyz1 tyb1 ty2 tyz2 tyb2 ty3 tyz3 tyb3 ty4 tyzb4 tyz4 tyb4 ty5 tyz5 tyb5 ty6 tyz6
attribute [go_sem] tyb6 ty7 tyf7 tyz7 tyb7 ty8 tyf8 tyz8 tyb8 ty9 tyz9 tyb9 ty10 tyz10 tyb10 ty11 tyz11 tyb11 ty12 tyz12
attribute [go_sem] tyb12 ty13 tyf13 tyz13 tyb13 ty14 tyf14 tyz14 tyb14 ty15 tyz15 tyb15 ty16 tyz16 tyb16 ty17 tyz17 tyb17 ty18 tyf18
attribute [go_sem] tyz18 tyb18 ty19 tyf19 tyz19 tyb19 ty20 tyz20 tyb20 ty21 tyz21 tyb21 ty22 tyz22 tyb22 ty23 tyz23 tyb23 ty24 tyf24
attribute [go_sem] tyz24 tyb24 ty25 tyf25 tyz25 tyb25 ty26 tyz26 tyb26 ty27 tyf27 tyz27 tyb27 ty28 tyf28 tyz28 tyq28 tyb28 ty29 tyz29
attribute [go_sem] tyb29 ty30 tyz30 tyb30 ty31 tyf31 tyz31 tyb31 ty32 tyf32 tyz32 tyq32 tyb32 ty33 tyz33 tyb33 ty34 tyb34 ty35 tyz35
attribute [go_sem] tyb35 ty36 tyb36 ty37 tyz37 tyb37 ty38 tyb38 ty39 tyz39 tyb39 ty40 tyz40 tyb40 ty41 tyz41 tyb41 ty42 tyz42 tyb42
attribute [go_sem] ty43 tyz43 tyb43 ty44 tyz44 tyb44 ty45 tyf45 tyz45 tyb45 ty46 tyf46 tyz46 tyq46 tyb46 ty47 tyb47 ty48 tyz48 tyb48
attribute [go_sem] ty49 tyz49 tyb49 ty50 tyb50 ty51 tyz51 tyb51 ty52 tyb52 ty53 tyz53 tyb53 ty54 tyz54 tyb54 ty55 tyz55 tyb55 ty56
attribute [go_sem] tyz56 tyb56 ty57 tyz57 tyb57 ty58 tyz58 tyb58 ty59 tyz59 tyb59 ty60 tyz60 tyb60 ty61 tyz61 tyb61 ty62 tyz62 tyb62
attribute [go_sem] ty63 tyf63 tyz63 tyb63 ty64 tyf64 tyz64 tyb64 ty65 tyz65 tyb65 ty66 tyf66 tyz66 tyb66 ty67 tyf67 tyz67 tyq67 tyb67
attribute [go_sem] ty68 tyz68 tyb68 ty69 tyf69 tyz69 tyb69 ty70 tyf70 tyz70 tyb70 ty71 tyz71 tyb71 ty72 tyz72 tyb72 ty73 tyz73 tyb73
attribute [go_sem] ty74 tyz74 tyb74 ty75 tyf75 tyz75 tyb75 ty76 tyz76 tyb76 ty77 tyz77 tyb77 ty78 tyz78 tyb78 ty79 tyz79 tyb79 ty80
attribute [go_sem] tyf80 tyz80 tyb80 ty81 tyf81 tyz81 tyq81 tyb81 ty82 tyf82 tyz82 tyb82 ty83 tyf83 tyz83 tyq83 tyb83 ty84 tyf84 tyz84
attribute [go_sem] tyb84 ty85 tyf85 tyz85 tyq85 tyb85 ty86 tyf86 tyz86 tyb86 ty87 tyf87 tyz87 tyq87 tyb87 ty88 tyz88 tyb88 ty89 tyb89
attribute [go_sem] ty90 tyz90 tyb90 ty91 tyz91 tyb91 ty92 tyz92 tyb92 ty93 tyz93 tyb93 ty94 tyz94 tyb94 ty95 tyb95 ty96 tyz96 tyb96
attribute [go_sem] ty97 tyz97 tyb97 ty98 tyz98 tyb98 ty99 tyz99 tyb99 ty100 tyz100 tyb100 ty101 tyz101 tyb101 ty102 tyb102 ty103 tyz103 tyb103
attribute [go_sem] ty104 tyz104 tyb104 ty105 tyz105 tyb105 ty106 tyb106 ty107 tyz107 tyb107 ty108 tyz108 tyb108 ty109 tyz109 tyb109 ty110 tyz110 tyb110
attribute [go_sem] ty111 tyz111 tyb111 ty112 tyz112 tyb112 ty113 tyz113 tyb113 ty114 tyz114 tyb114 ty115 tyf115 tyz115 tyb115 ty116 tyf116 tyz116 tyb116
attribute [go_sem] ty117 tyf117 tyz117 tyb117 ty118 tyf118 tyz118 tyb118 ty119 tyf119 tyz119 tyb119 ty120 tyz120 tyb120 ty121 tyz121 tyb121 ty122 tyz122
attribute [go_sem] tyb122 ty123 tyz123 tyb123 ty124 tyz124 tyb124 ty125 tyz125 tyb125 ty126 tyz126 tyb126 ty127 tyz127 tyb127 ty128 tyz128 tyb128 ty129
attribute [go_sem] tyb129 ty130 tyz130 tyb130 ty131 tyz131 tyb131 ty132 tyz132 tyb132 ty133 tyz133 tyb133 ty134 tyz134 tyb134 ty135 tyz135 tyb135 ty136
attribute [go_sem] tyz136 tyb136 ty137 tyz137 tyb137 ty138 tyz138 tyb138 ty139 tyz139 tyb139 ty140 tyz140 tyb140 ty141 tyz141 tyb141 ty142 tyz142 tyb142
attribute [go_sem] ty143 tyz143 tyb143 ty144 tyz144 tyb144 ty145 tyz145 tyb145 ty146 tyz146 tyb146 ty147 tyf147 tyz147 tyb147 ty148 tyf148 tyz148 tyb148
attribute [go_sem] ty149 tyf149 tyz149 tyb149 ty150 tyf150 tyz150 tyb150 ty151 tyf151 tyz151 tyb151 ty152 tyz152 tyb152 ty153 tyz153 tyb153 ty154 tyz154
attribute [go_sem] tyb154 ty155 tyz155 tyb155 ty156 tyz156 tyb156 ty157 tyz157 tyb157 ty158 tyz158 tyb158 ty159 tyz159 tyb159 ty160 tyf160 tyz160 tyb160
attribute [go_sem] ty161 tyf161 tyz161 tyb161 ty162 tyz162 tyb162
attribute [go_sem] Tryd.underlying0 Tryd.underlying1 Tryd.underlying2 Tryd.underlying3 Tryd.underlying4 Tryd.underlying5 Tryd.underlying6 Tryd.underlying7 Tryd.underlying8 Tryd.underlying9 Tryd.underlying10 Tryd.underlying11 Tryd.underlying12 Tryd.underlying13 Tryd.underlying14 Tryd.underlying15 Tryd.underlying16 Tryd.underlying17 Tryd.underlying18 Tryd.underlying19
attribute [go_sem] Tryd.underlying20 Tryd.underlying21 Tryd.underlying22 Tryd.underlying23 Tryd.underlying24 Tryd.underlying25 Tryd.underlying26 Tryd.underlying27 Tryd.underlying28 Tryd.underlying29 Tryd.underlying30 Tryd.underlying31 Tryd.underlying32 Tryd.underlying33 Tryd.underlying34 Tryd.underlying35 Tryd.underlying36 Tryd.underlying37 Tryd.underlying38 Tryd.underlying39
attribute [go_sem] Tryd.underlying40 Tryd.underlying41 Tryd.underlying42 Tryd.underlying43 Tryd.underlying44 Tryd.underlying45 Tryd.underlying46 Tryd.underlying47 Tryd.underlying48 Tryd.underlying49 Tryd.underlying50 Tryd.underlying51 Tryd.underlying52 Tryd.underlying53 Tryd.underlying54 Tryd.underlying55 Tryd.underlying56 Tryd.underlying57 Tryd.underlying58 Tryd.underlying59
attribute [go_sem] Tryd.underlying60 Tryd.underlying61 Tryd.underlying62 Tryd.underlying63 Tryd.underlying64 Tryd.underlying65 Tryd.underlying66 Tryd.underlying67 Tryd.underlying68 Tryd.underlying69 Tryd.underlying70 Tryd.underlying71 Tryd.underlying72 Tryd.underlying73 Tryd.underlying74 Tryd.underlying75 Tryd.underlying76 Tryd.underlying77 Tryd.underlying78 Tryd.underlying79
attribute [go_sem] Tryd.underlying80 Tryd.underlying81 Tryd.underlying82 Tryd.underlying83 Tryd.underlying84 Tryd.underlying85 Tryd.underlying86 Tryd.underlying87 Tryd.underlying88 Tryd.underlying89 Tryd.underlying90 Tryd.underlying91 Tryd.underlying92 Tryd.underlying93 Tryd.underlying94 Tryd.underlying95 Tryd.underlying96 Tryd.underlying97 Tryd.underlying98 Tryd.underlying99
attribute [go_sem] Tryd.underlying100 Tryd.underlying101 Tryd.underlying102 Tryd.underlying103 Tryd.underlying104 Tryd.underlying105 Tryd.underlying106 Tryd.underlying107 Tryd.underlying108 Tryd.underlying109 Tryd.underlying110 Tryd.underlying111 Tryd.underlying112 Tryd.underlying113 Tryd.underlying114 Tryd.underlying115 Tryd.underlying116 Tryd.underlying117 Tryd.underlying118 Tryd.underlying119
attribute [go_sem] Tryd.underlying120 Tryd.underlying121 Tryd.underlying122 Tryd.underlying123 Tryd.underlying124 Tryd.underlying125 Tryd.underlying126 Tryd.underlying127 Tryd.underlying128 Tryd.underlying129 Tryd.underlying130 Tryd.underlying131 Tryd.underlying132 Tryd.underlying133 Tryd.underlying134 Tryd.underlying135 Tryd.underlying136 Tryd.underlying137 Tryd.underlying138 Tryd.underlying139
attribute [go_sem] Tryd.underlying140 Tryd.underlying141 Tryd.underlying142 Tryd.underlying143 Tryd.underlying144 Tryd.underlying145 Tryd.underlying146 Tryd.underlying147 Tryd.underlying148 Tryd.underlying149 Tryd.underlying150 Tryd.underlying151 Tryd.underlying152 Tryd.underlying153 Tryd.underlying154 Tryd.underlying155 Tryd.underlying156 Tryd.underlying157 Tryd.underlying158 Tryd.underlying159
attribute [go_sem] Tryd.underlying160 Tryd.underlying161 Tryd.underlying162
end Go.Proofs.YtnopihhconklnaaDoor.T
