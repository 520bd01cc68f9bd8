/- The document's example of layer 23 comes out: reckoned by the machine, piece by piece. Printed by pieces.py. -/
import Derived.Test.YtldceipbpilipaaGreatDoorBase
set_option linter.all false
namespace Go.Am.Ab
open Go.Proofs
set_option maxRecDepth 1000000
def ii (n : Int) : D := .int .i64 n
def uu (n : Int) : D := .int .u64 n
def yy (n : Int) : D := .int .u8 n
def bs (l : List Nat) : List D := l.map fun (n : Nat) => D.int .u8 (n : Int)
def bb (l : List Nat) : D := .list (bs l)
def ss (l : List Nat) : D := .str ⟨(l.map UInt8.ofNat).toArray⟩
def q0 : D := (.list [(.agg [(.int .u32 1),(ss [105,100]),(yy 1),(.bool true)]),(.agg [(.int .u32 2),(ss [110,97,109,101]),(yy 3),(.bool false)])])
def q1 : Obj := (.arr 2 [(.agg [(.int .u32 1),q0])] 1)
def q2 : Obj := (.map [((ss [116,49]),(.d (.agg [(bb [84,70,49,1,1,2,1,2,105,100,1,1,2,4,110,97,109,101,3,0,0,188,221,57,89]),(.bool false)]))),((ss [107,50]),(.d (.agg [(bb [75,70,49,1,1,0,0,14,75,246,76,155]),(.bool false)]))),((ss [109,51]),(.d (.agg [(bb [77,70,49,1,2,107,50,1,1,1,0,1,0,3,1,14,14,140,213,50,207]),(.bool false)]))),((ss [116,52]),(.d (.agg [(bb [84,70,49,1,1,2,1,2,105,100,1,1,2,4,110,97,109,101,3,0,1,1,0,1,2,0,1,1,2,109,51,147,10,101,34]),(.bool false)])))] [0,1,2,3] 4)
def q3 : Obj := (.arr 7 [(.agg [(uu 1),(uu 0),(uu 1),(uu 2),(uu 0),(.int .u32 1),(.list [(ss [109,51])])])] 1)
def q4 : D := (.list [(.agg [(.int .u32 1),q0])])
theorem qk0 : R 80 [(.ptr 0 0),(.d (.agg [(.bool false),(.list []),(.list [(.agg [(ss [107,50]),(.bool true),(uu 0),(ii 1),(.int .u32 0),(.list [(.agg [(ii 1),(ii 0),(.bool true),(.bool true),(yy 1),(ii 7),(ss []),(yy 1),(ii 7),(ss [])])])])]),(.list []),(uu 2),(uu 0)]))] [(.box [(.ptr 1 0),(.arr 2 1),.nilS,(.d (uu 0)),(.d (ss [116,49]))]),(.box [(.d (ii 100000)),(.d (ii 37)),(.mp 3),(.d (ss [116,49])),(.d (ii (-1))),(.d (ii (-1))),(.d (.bool false))]),q1,(.map [((ss [116,49]),(.d (.agg [(bb [84,70,49,1,1,2,1,2,105,100,1,1,2,4,110,97,109,101,3,0,0,188,221,57,89]),(.bool false)]))),((ss [107,50]),(.d (.agg [(bb [75,70,49,1,1,0,0,14,75,246,76,155]),(.bool false)])))] [0,1] 2)] = some ([(.agg [(.d (uu 1)),(.d (uu 0)),(.d (uu 1)),(.d (uu 2)),(.d (uu 0)),(.d (.int .u32 1)),(.arr 4 1)]),(.d (ii 0))],[(.box [(.ptr 1 0),(.arr 5 1),(.arr 6 1),(.d (uu 1)),(.d (ss [116,52]))]),(.box [(.d (ii 100000)),(.d (ii 93)),(.mp 3),(.d (ss [116,52])),(.d (ii (-1))),(.d (ii (-1))),(.d (.bool false))]),q1,q2,(.arr 1 [(ss [109,51])] 0),q1,q3]) := evalM_runs t0 100000 60 (by kernel_rfl)
theorem qk1 : R 12 [(.ptr 0 0),(.d (.agg [(uu 2),(yy 2),(.list []),(yy 1),(ii 7),(ss []),(ss []),(yy 0)]))] [(.box [(.ptr 1 0),(.d (ii 2)),(.d (ii 1000)),(.d (uu 0)),(.d (ii 1)),(.d (.int .u32 1)),(.d q0),(.d (.int .u32 1)),(.d q0),(.d (uu 0)),(.d (uu 1)),(.d (uu 0)),(.d (uu 0)),(.d (ii 12)),(.mp 2),.nilS]),(.box [(.ptr 3 0),(.d q4),.nilS,(.d (uu 0)),(.d (ss [116,49]))]),(.map [((.agg [(yy 1),(ii 7),(ss [])]),(.d (.list [(.iface 2 (ii 7)),(.iface 9 (ss [97]))])))] [0] 1),(.box [(.d (ii 100000)),(.d (ii 25)),(.mp 4),(.d (ss [116,49])),(.d (ii (-1))),(.d (ii (-1))),(.d (.bool false))]),(.map [((ss [116,49]),(.d (.agg [(bb [84,70,49,1,1,2,1,2,105,100,1,1,2,4,110,97,109,101,3,0,0,188,221,57,89]),(.bool false)])))] [0] 1)] = some ([(.d (ii 0))],[(.box [(.ptr 1 0),(.d (ii 2)),(.d (ii 1000)),(.d (uu 0)),(.d (ii 1)),(.d (.int .u32 1)),(.d q0),(.d (.int .u32 1)),(.d q0),(.d (uu 2)),(.d (uu 2)),(.d (uu 0)),(.d (uu 0)),(.d (ii 0)),(.mp 5),.nilS]),(.box [(.ptr 3 0),(.arr 6 1),(.arr 7 1),(.d (uu 1)),(.d (ss [116,52]))]),(.map [((.agg [(yy 1),(ii 7),(ss [])]),.nilS)] [0] 1),(.box [(.d (ii 100000)),(.d (ii 93)),(.mp 4),(.d (ss [116,52])),(.d (ii (-1))),(.d (ii (-1))),(.d (.bool false))]),q2,(.map [] [] 0),q1,q3]) := evalM_runs (t1 qk0 t0) 100000 60 (by kernel_rfl)
theorem q_top : R 6 [] [] = some ([.d (.bool true)],[]) := evalM_runs (t1 qk1 t0) 100000 60 (by kernel_rfl)
theorem alive23_runs : R 6 [] [] = some ([.d (.bool true)],[]) := q_top
end Go.Am.Ab
