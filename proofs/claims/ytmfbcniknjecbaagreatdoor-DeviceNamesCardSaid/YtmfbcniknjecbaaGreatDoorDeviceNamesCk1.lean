/- Calls of the law DeviceNames, each at its place: what there is before it, and behind it. Conditions: none. -/
import Derived.Test.YtmfbcniknjecbaaGreatDoorSeatJ
namespace Go.Proofs.YtmfbcniknjecbaaGreatDoor.deviceNames
open Go Go.Abs
noncomputable section
set_option maxRecDepth 100000
def o0 : AO := .cells [(.bool true),(.int .i64 (.ofNat 10000)),(.map 300),(.map 301),.nilsl,(.int .u64 (.ofNat 0)),(.bool false),(.int .i64 (.negSucc 0))] true false
def o1 : AO := .map [((.str [48, 47, 105, 110, 100, 101, 120]),(.ptr 341 0))] [1] 2
def o2 : AO := .cells [(.bool true),(.int .i64 (.ofNat 10000)),(.map 300),(.map 301),.nilsl,(.int .u64 (.ofNat 4)),(.bool false),(.int .i64 (.negSucc 0))] true false
def o3 : AO := .cells [(.int .i64 (.ofNat 0)),(.ptr 302 0),(.str [48, 47, 105, 110, 100, 101, 120]),(.int .i64 (.ofNat 16)),(.int .i64 (.ofNat 1))] true false
def o4 : AO := .cells [(.sl 534 0 16 1 none),(.sl 568 0 16 1 none),(.int .u64 (.ofNat 4))] true false
def o5 : AO := .cells [(.ptr 589 0),(.ptr 304 0),(.int .i64 (.ofNat 4096))] true false
def o6 : AO := .cells [(.ptr 421 0),(.int .i64 (.ofNat 1))] true false
def o7 : AO := .cells (u8s [0, 0, 0, 8, 1, 1, 1, 1, 109, 2, 1, 0, 2, 42, 0, 125]) true false
def o8 : AO := .cells [(.str [109]),(.str [1, 0]),(.int .u32 (.ofNat 3893112696)),(.int .i64 (.ofNat 1)),.nilptr,.nilptr] true false
def o9 : AO := .cells [(.map 593),(.map 594),(.int .u64 (.ofNat 0)),(.int .i64 (.ofNat 0))] true false
def o10 : AO := .cells [(.ptr 428 0),(.ptr 595 0),(.ptr 302 0),(.int .i64 (.ofNat 2)),(.bool false),(.int .i64 (.ofNat 0)),(.map 596),(.map 597),.nilsl,.nilsl] true false
def o11 : AO := .map [((.str [48, 47, 105, 110, 100, 101, 120]),(.ptr 341 0)),((.str [102, 47, 97]),(.ptr 1659 0))] [1, 2] 3
def o12 : AO := .cells [(.bool true),(.int .i64 (.ofNat 10000)),(.map 300),(.map 301),(.sl 1662 0 1 1 none),(.int .u64 (.ofNat 8)),(.bool false),(.int .i64 (.negSucc 0))] true false
def o13 : AO := .cells [(.int .i64 (.ofNat 0)),(.ptr 302 0),(.str [48, 47, 105, 110, 100, 101, 120]),(.int .i64 (.ofNat 55)),(.int .i64 (.ofNat 3))] true false
def o14 : AO := .cells [(.sl 1446 0 55 1 none),(.sl 1480 0 55 1 none),(.int .u64 (.ofNat 6))] true false
def o15 : AO := .cells [(.ptr 1503 0),(.ptr 304 0),(.int .i64 (.ofNat 4096))] true false
def o16 : AO := .cells (u8s [0, 0, 0, 8, 1, 1, 1, 1, 109, 2, 1, 0, 2, 42, 0, 125, 0, 0, 0, 11, 1, 1, 1, 1, 109, 5, 1, 1, 1, 102, 0, 4, 170, 0, 235, 0, 0, 0, 12, 1, 1, 1, 1, 109, 6, 1, 1, 1, 102, 1, 2, 5, 173, 0, 240]) true false
def o17 : AO := .cells [(.str [109]),(.str [1, 1, 1, 102, 1, 2]),(.int .u32 (.ofNat 3893112696)),(.int .i64 (.ofNat 1)),.nilptr,.nilptr] true false
def o18 : AO := .cells [(.str [102, 47, 97])] true false
def o19 : AO := .cells [(.sl 1667 0 3 1 none),.nilsl,(.int .u64 (.ofNat 8))] true false
def o20 : AO := .cells [(.ptr 1659 0)] true false
def o21 : AO := .cells [(.func (.func 204) [] [(.ptr 1660 0),(.ptr 1649 0)])] true false
def o22 : AO := .cells (u8s [97, 98, 99]) true false
def o23 : AO := .cells [(.int .i64 (.ofNat 1)),(.int .u64 (.ofNat 1))] true false
def o24 : AO := .cells (u8s [251, 142, 32, 252, 46, 76, 63, 36, 140, 96, 195, 155, 214, 82, 243, 193, 52, 114, 152, 187, 151, 123, 139, 77, 89, 3, 184, 80, 85, 98, 6, 3, 46, 125, 44, 3, 169, 80, 122, 226, 101, 236, 245, 181, 53, 104, 133, 165, 51, 147, 162, 2, 157, 36, 19, 148, 153, 114, 101, 161, 162, 90, 239, 198]) true false
def o25 : AO := .cells [(.str [97]),(.sl 3316 0 1 2 none),(.int .i64 (.ofNat 1)),(.bool false),(.int .i64 (.ofNat 2)),(.int .i64 (.ofNat 3)),(.sl 3318 0 2 32 none)] true false
def o26 : AO := .cells [(.str [97]),(.int .i64 (.ofNat 3)),(.int .u64 (.ofNat 8))] true false
def o27 : AO := .cells [(.bool true),(.int .i64 (.ofNat 10000)),(.map 300),(.map 301),.nilsl,(.int .u64 (.ofNat 9)),(.bool false),(.int .i64 (.negSucc 0))] true false
def o28 : AO := .cells [(.int .i64 (.ofNat 0)),(.ptr 302 0),(.str [48, 47, 105, 110, 100, 101, 120]),(.int .i64 (.ofNat 155)),(.int .i64 (.ofNat 4))] true false
def o29 : AO := .cells [(.sl 4132 0 155 1 none),(.sl 4166 0 155 1 none),(.int .u64 (.ofNat 9))] true false
def o30 : AO := .cells [(.ptr 4369 0),(.ptr 304 0),(.int .i64 (.ofNat 4096))] true false
def o31 : AO := .map [((.str [102]),(.sl 3382 0 1 3 none))] [0] 1
def o32 : AO := .cells [(.ptr 428 0),(.ptr 595 0),(.ptr 302 0),(.int .i64 (.ofNat 2)),(.bool false),(.int .i64 (.ofNat 0)),(.map 596),(.map 597),.nilsl,(.sl 4392 0 1 18 none)] true false
def o33 : AO := .cells [(.sl 1667 0 3 1 none),(.sl 3391 0 3 1 none),(.int .u64 (.ofNat 8))] true false
def o34 : AO := .cells (u8s [0, 0, 0, 8, 1, 1, 1, 1, 109, 2, 1, 0, 2, 42, 0, 125, 0, 0, 0, 11, 1, 1, 1, 1, 109, 5, 1, 1, 1, 102, 0, 4, 170, 0, 235, 0, 0, 0, 12, 1, 1, 1, 1, 109, 6, 1, 1, 1, 102, 1, 2, 5, 173, 0, 240, 0, 0, 0, 92, 1, 2, 1, 5, 108, 47, 102, 47, 97, 75, 1, 73, 1, 97, 1, 1, 1, 1, 0, 2, 3, 251, 142, 32, 252, 46, 76, 63, 36, 140, 96, 195, 155, 214, 82, 243, 193, 52, 114, 152, 187, 151,
   123, 139, 77, 89, 3, 184, 80, 85, 98, 6, 3, 46, 125, 44, 3, 169, 80, 122, 226, 101, 236, 245, 181, 53, 104, 133, 165, 51, 147, 162, 2, 157, 36, 19, 148, 153, 114, 101, 161, 162, 90, 239, 198, 1, 3, 115, 47, 102, 1, 1, 167, 63, 34, 57]) true false
def o35 : AO := .cells [(.str [108, 47, 102, 47, 97]),(.str [1, 73, 1, 97, 1, 1, 1, 1, 0, 2, 3, 251, 142, 32, 252, 46, 76, 63, 36, 140, 96, 195, 155, 214, 82, 243, 193, 52, 114, 152, 187, 151, 123, 139, 77, 89, 3, 184, 80, 85, 98, 6, 3, 46, 125, 44, 3, 169, 80, 122, 226, 101, 236, 245, 181, 53, 104, 133, 165, 51, 147, 162, 2, 157, 36, 19, 148, 153, 114, 101, 161, 162, 90, 239, 198]),
  (.int .u32 (.ofNat 1001468742)),(.int .i64 (.ofNat 1)),.nilptr,.nilptr] true false
def o36 : AO := .cells [(.str [115, 47, 102]),(.str [1]),(.int .u32 (.ofNat 3616983587)),(.int .i64 (.ofNat 1)),.nilptr,.nilptr] true false
def o37 : AO := .cells [(.str [109]),(.str [1, 1, 1, 102, 1, 2]),(.int .u32 (.ofNat 3893112696)),(.int .i64 (.ofNat 3)),(.ptr 4272 0),(.ptr 4323 0)] true false
def o38 : AO := .cells [(.int .i64 (.ofNat 1)),(.str [102]),(.str []),(.str [97]),(.sl 3316 0 1 2 none),(.int .i64 (.ofNat 1)),(.bool false),(.int .i64 (.ofNat 2)),(.int .i64 (.ofNat 3)),(.sl 3318 0 2 32 none),(.str []),(.str []),.nilsl,(.int .i64 (.ofNat 0)),(.bool false),(.int .i64 (.ofNat 0)),(.int .i64 (.ofNat 0)),.nilsl] true false
def o39 : AO := .cells [(.ptr 428 0),(.ptr 595 0),(.ptr 302 0),(.int .i64 (.ofNat 2)),(.bool false),(.int .i64 (.ofNat 1)),(.map 596),(.map 597),.nilsl,.nilsl] true false
def o40 : AO := .map [((.str [102]),(.sl 11764 0 1 3 none))] [0] 1
def o41 : AO := .map [((.int .i64 (.ofNat 2)),(.agg [(.int .i64 (.ofNat 2)),(.int .u64 (.ofNat 1)),(.bool false),(.bool false),.nilsl]))] [0] 1
def o42 : AO := .cells [(.ptr 428 0),(.ptr 595 0),(.ptr 302 0),(.int .i64 (.ofNat 2)),(.bool false),(.int .i64 (.ofNat 2)),(.map 596),(.map 597),.nilsl,.nilsl] true false
def o43 : AO := .cells (u8s [0, 0, 0, 3, 1, 1, 1, 0, 25, 0, 7]) true false
def o44 : AO := .cells (u8s [0, 0, 0, 4, 2, 1, 1, 102, 0, 143, 0, 111]) true false
def o45 : AO := .cells [(.int .i64 (.ofNat 2)),(.sl 17716 0 11 1 none),(.int .i64 (.ofNat 2)),(.sl 17793 0 12 1 none)] true false
def c0 : Ck := Ck.mk 5 [(.ptr 302 0),(.int .i64 (.ofNat 1)),(.int .i64 (.ofNat 2))] 303 [] [(300,.map [] [] 0),(301,.map [] [] 0),(302,o0)] ((.tup [(.ptr 598 0),(.int .i64 (.ofNat 0))])) 599 [(300,o1),(301,o1),(302,o2),(304,o3),(341,o4),(421,o5),(428,o6),(534,o7),(568,o7),(589,o8),(593,.map [] [] 0),(594,.map [] [] 0),(595,o9),(596,.map [] [] 0),(597,.map [] [] 0),(598,o10)]
def c1 : Ck := Ck.mk 395 [(.ptr 302 0),(.ptr 428 0),(.str [102]),(.int .i64 (.ofNat 2)),.nilsl] 1832 [(300,o11),(301,o1),(302,o12),(304,o13),(341,o14),(421,o15),(428,o6),(1446,o16),(1480,o16),(1503,o17),(1649,o18),(1659,o19),(1660,o20),(1662,o21),(1667,o22)] [] ((.tup [(.agg [(.sl 3366 0 1 7 none),(.sl 3382 0 1 3 none),.nilsl]),(.int .i64 (.ofNat 0))])) 3383 [(3316,o23),(3318,o24),(3366,o25),
  (3382,o26)]
def c2 : Ck := Ck.mk 171 [(.ptr 598 0),(.str [102])] 4393 [(300,o11),(301,o11),(302,o27),(304,o28),(341,o29),(421,o30),(428,o6),(593,.map [] [] 0),(594,.map [] [] 0),(595,o9),(596,o31),(597,.map [] [] 0),(598,o32),(1659,o33),(1667,o22),(3316,o23),(3318,o24),(3382,o26),(3391,o22),(4132,o34),(4166,o34),(4272,o35),(4323,o36),(4369,o37),(4392,o38)] [] ((.int .i64 (.ofNat 0))) 6327 []
def c3 : Ck := Ck.mk 173 [(.ptr 598 0),(.str [102])] 6333 [(300,o11),(301,o11),(302,o27),(304,o28),(341,o29),(421,o30),(428,o6),(593,.map [] [] 0),(594,.map [] [] 0),(595,o9),(596,o31),(597,.map [] [] 0),(598,o32),(1659,o33),(1667,o22),(3316,o23),(3318,o24),(3382,o26),(3391,o22),(4132,o34),(4166,o34),(4272,o35),(4323,o36),(4369,o37),(4392,o38)] [] ((.int .i64 (.ofNat 0))) 8062 []
def c4 : Ck := Ck.mk 22 [(.ptr 598 0)] 1684 [(300,o11),(428,o6),(593,.map [] [] 0),(594,.map [] [] 0),(595,o9),(597,.map [] [] 0),(1446,o16),(1480,o16),(1503,o17),(1649,o18),(1660,o20),(1662,o21),(1667,o22)] [(301,o1),(302,o12),(304,o13),(341,o14),(421,o15),(596,.map [] [] 0),(598,o10),(1659,o19)] ((.tup [.nilsl,(.sl 4392 0 1 18 none),(.int .i64 (.ofNat 0))])) 9865 [(301,o11),(302,o27),(304,o28),
  (341,o29),(421,o30),(596,o31),(598,o39),(1659,o33),(3316,o23),(3318,o24),(3382,o26),(3391,o22),(4132,o34),(4166,o34),(4272,o35),(4323,o36),(4369,o37),(4392,o38)]
def c5 : Ck := Ck.mk 171 [(.ptr 598 0),(.str [102])] 11774 [(300,o11),(301,o11),(302,o27),(304,o28),(341,o29),(421,o30),(428,o6),(593,.map [] [] 0),(594,.map [] [] 0),(595,o9),(596,o40),(597,o41),(598,o39),(1659,o33),(1667,o22),(3391,o22),(4132,o34),(4166,o34),(4272,o35),(4323,o36),(4369,o37),(11764,o26)] [] ((.int .i64 (.ofNat 0))) 13708 []
def c6 : Ck := Ck.mk 173 [(.ptr 598 0),(.str [102])] 13714 [(300,o11),(301,o11),(302,o27),(304,o28),(341,o29),(421,o30),(428,o6),(593,.map [] [] 0),(594,.map [] [] 0),(595,o9),(596,o40),(597,o41),(598,o39),(1659,o33),(1667,o22),(3391,o22),(4132,o34),(4166,o34),(4272,o35),(4323,o36),(4369,o37),(11764,o26)] [] ((.int .i64 (.ofNat 0))) 15443 []
def c7 : Ck := Ck.mk 75 [(.ptr 598 0),(.str [102])] 10114 [(300,o11),(301,o11),(302,o27),(304,o28),(341,o29),(421,o30),(428,o6),(593,.map [] [] 0),(594,.map [] [] 0),(595,o9),(597,o41),(598,o39),(1659,o33),(1667,o22),(3382,o26),(3391,o22),(4132,o34),(4166,o34),(4272,o35),(4323,o36),(4369,o37)] [(596,o31)] ((.int .i64 (.ofNat 0))) 17226 [(596,o40),(11764,o26)]
def c8 : Ck := Ck.mk 22 [(.ptr 598 0)] 9994 [(300,o11),(301,o11),(302,o27),(304,o28),(341,o29),(421,o30),(428,o6),(593,.map [] [] 0),(594,.map [] [] 0),(595,o9),(597,o41),(1659,o33),(1667,o22),(3382,o26),(3391,o22),(4132,o34),(4166,o34),(4272,o35),(4323,o36),(4369,o37)] [(596,o31),(598,o39)] ((.tup [(.sl 17795 0 2 2 none),.nilsl,(.int .i64 (.ofNat 0))])) 17811 [(596,o40),(598,o42),(11764,o26),
  (17716,o43),(17793,o44),(17795,o45)]
def c9 : Ck := Ck.mk 7 [] 300 [] [] ((.bool true)) 18350 []
end
end Go.Proofs.YtmfbcniknjecbaaGreatDoor.deviceNames
