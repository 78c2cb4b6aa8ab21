/- The texts, for reasoning: how each function is entered and left. -/
import Derived.Test.YthclmjelknibhaaDskY
import Derived.Test.YthclmjelknibhaaEvS
namespace Go.Proofs.Ythclmjelknibhaa.Ev
open Go Go.RowKit
set_option linter.unusedVariables false
set_option linter.constructorNameAsVariable false
theorem u13_in (C : CU) (n : Nat) (p0 p1 p2 p3 : FV) (F : FAW) : u13 C n [p0, p1, p2, p3] F = u13b C n (.mk p0 p1 p2 p3 (.u []) (.u []) (.u []) (.u []) (.u []) (.u []) (.u []) (.u []) (.u []) (.u []) (.u []) (.u []) (.u []) (.u []) (.u []) (.u [])) F fun o v F => exU o (u13r v F) (fun _ => .no) (u13r v F) := rfl
theorem u13r_mk (a c d e f g h i j k l m o p q r s t w x : FV) (S : FAW) : u13r (.mk a c d e f g h i j k l m o p q r s t w x ) S = .ok f S := rfl
theorem cl13 (n : Nat) (args : List FV) (F : FAW) : clU dskD (n + 1) 13 args F = u13 (clU dskD n) n args F := clU_get (fun k => by kernel_rfl) n args F
theorem u15_in (C : CU) (n : Nat) (p0 : FV) (F : FAW) : u15 C n [p0] F = u15b C n (.mk p0 (.u [])) F fun o v F => exU o (u15r v F) (fun _ => .no) (u15r v F) := rfl
theorem u15r_mk (a c : FV) (S : FAW) : u15r (.mk a c ) S = .ok c S := rfl
theorem cl15 (n : Nat) (args : List FV) (F : FAW) : clU dskD (n + 1) 15 args F = u15 (clU dskD n) n args F := clU_get (fun k => by kernel_rfl) n args F
theorem u16_in (C : CU) (n : Nat) (p0 p1 p2 : FV) (F : FAW) : u16 C n [p0, p1, p2] F = u16b C n (.mk p0 p1 p2 (.u [])) F fun o v F => exU o (u16r v F) (fun _ => .no) (u16r v F) := rfl
theorem u16r_mk (a c d e : FV) (S : FAW) : u16r (.mk a c d e ) S = .ok (.u []) S := rfl
theorem cl16 (n : Nat) (args : List FV) (F : FAW) : clU dskD (n + 1) 16 args F = u16 (clU dskD n) n args F := clU_get (fun k => by kernel_rfl) n args F
theorem u17_in (C : CU) (n : Nat) (p0 p1 p2 : FV) (F : FAW) : u17 C n [p0, p1, p2] F = u17b C n (.mk p0 p1 p2 (.u []) (.u []) (.u []) (.u []) (.u []) (.u []) (.u []) (.u [])) F fun o v F => exU o (u17r v F) (fun _ => .no) (u17r v F) := rfl
theorem u17r_mk (a c d e f g h i j k l : FV) (S : FAW) : u17r (.mk a c d e f g h i j k l ) S = .ok h S := rfl
theorem cl17 (n : Nat) (args : List FV) (F : FAW) : clU dskD (n + 1) 17 args F = u17 (clU dskD n) n args F := clU_get (fun k => by kernel_rfl) n args F
theorem u18_in (C : CU) (n : Nat) (p0 p1 : FV) (F : FAW) : u18 C n [p0, p1] F = u18b C n (.mk p0 p1 (.u []) (.u []) (.u []) (.u []) (.u [])) F fun o v F => exU o (u18r v F) (fun _ => .no) (u18r v F) := rfl
theorem u18r_mk (a c d e f g h : FV) (S : FAW) : u18r (.mk a c d e f g h ) S = .ok f S := rfl
theorem cl18 (n : Nat) (args : List FV) (F : FAW) : clU dskD (n + 1) 18 args F = u18 (clU dskD n) n args F := clU_get (fun k => by kernel_rfl) n args F
theorem u20_in (C : CU) (n : Nat) (p0 p1 : FV) (F : FAW) : u20 C n [p0, p1] F = u20b C n (.mk p0 p1 (.u []) (.u []) (.u []) (.u [])) F fun o v F => exU o (u20r v F) (fun _ => .no) (u20r v F) := rfl
theorem u20r_mk (a c d e f g : FV) (S : FAW) : u20r (.mk a c d e f g ) S = .ok (.u [d, e]) S := rfl
theorem cl20 (n : Nat) (args : List FV) (F : FAW) : clU dskD (n + 1) 20 args F = u20 (clU dskD n) n args F := clU_get (fun k => by kernel_rfl) n args F
theorem u21_in (C : CU) (n : Nat) (p0 p1 p2 : FV) (F : FAW) : u21 C n [p0, p1, p2] F = u21b C n (.mk p0 p1 p2 (.u []) (.u []) (.u []) (.u []) (.u []) (.u [])) F fun o v F => exU o (u21r v F) (fun _ => .no) (u21r v F) := rfl
theorem u21r_mk (a c d e f g h i j : FV) (S : FAW) : u21r (.mk a c d e f g h i j ) S = .ok h S := rfl
theorem cl21 (n : Nat) (args : List FV) (F : FAW) : clU dskD (n + 1) 21 args F = u21 (clU dskD n) n args F := clU_get (fun k => by kernel_rfl) n args F
theorem u26_in (C : CU) (n : Nat) (p0 p1 : FV) (F : FAW) : u26 C n [p0, p1] F = u26b C n (.mk p0 p1 (.u []) (.u []) (.u []) (.u []) (.u [])) F fun o v F => exU o (u26r v F) (fun _ => .no) (u26r v F) := rfl
theorem u26r_mk (a c d e f g h : FV) (S : FAW) : u26r (.mk a c d e f g h ) S = .ok f S := rfl
theorem cl26 (n : Nat) (args : List FV) (F : FAW) : clU dskD (n + 1) 26 args F = u26 (clU dskD n) n args F := clU_get (fun k => by kernel_rfl) n args F
theorem u27_in (C : CU) (n : Nat) (p0 : FV) (F : FAW) : u27 C n [p0] F = u27b C n (.mk p0 (.u [])) F fun o v F => exU o (u27r v F) (fun _ => .no) (u27r v F) := rfl
theorem u27r_mk (a c : FV) (S : FAW) : u27r (.mk a c ) S = .ok c S := rfl
theorem cl27 (n : Nat) (args : List FV) (F : FAW) : clU dskD (n + 1) 27 args F = u27 (clU dskD n) n args F := clU_get (fun k => by kernel_rfl) n args F
theorem u32_in (C : CU) (n : Nat) (F : FAW) : u32 C n [] F = u32b C n (.mk (.u []) (.u []) (.u []) (.u []) (.u []) (.u []) (.u []) (.u []) (.u []) (.u []) (.u []) (.u []) (.u []) (.u [])) F fun o v F => exU o (u32r v F) (fun _ => .no) (u32r v F) := rfl
theorem u32r_mk (a c d e f g h i j k l m o p : FV) (S : FAW) : u32r (.mk a c d e f g h i j k l m o p ) S = .ok a S := rfl
theorem cl32 (n : Nat) (args : List FV) (F : FAW) : clU dskD (n + 1) 32 args F = u32 (clU dskD n) n args F := clU_get (fun k => by kernel_rfl) n args F
theorem u33_in (C : CU) (n : Nat) (p0 : FV) (F : FAW) : u33 C n [p0] F = u33b C n (.mk p0 (.u []) (.u [])) F fun o v F => exU o (u33r v F) (fun _ => .no) (u33r v F) := rfl
theorem u33r_mk (a c d : FV) (S : FAW) : u33r (.mk a c d ) S = .ok c S := rfl
theorem cl33 (n : Nat) (args : List FV) (F : FAW) : clU dskD (n + 1) 33 args F = u33 (clU dskD n) n args F := clU_get (fun k => by kernel_rfl) n args F
theorem u34_in (C : CU) (n : Nat) (p0 : FV) (F : FAW) : u34 C n [p0] F = u34b C n (.mk p0 (.u []) (.u []) (.u []) (.u []) (.u []) (.u [])) F fun o v F => exU o (u34r v F) (fun _ => .no) (u34r v F) := rfl
theorem u34r_mk (a c d e f g h : FV) (S : FAW) : u34r (.mk a c d e f g h ) S = .ok (.u [c, d]) S := rfl
theorem cl34 (n : Nat) (args : List FV) (F : FAW) : clU dskD (n + 1) 34 args F = u34 (clU dskD n) n args F := clU_get (fun k => by kernel_rfl) n args F
theorem u35_in (C : CU) (n : Nat) (p0 : FV) (F : FAW) : u35 C n [p0] F = u35b C n (.mk p0 (.u []) (.u []) (.u []) (.u []) (.u []) (.u []) (.u []) (.u [])) F fun o v F => exU o (u35r v F) (fun _ => .no) (u35r v F) := rfl
theorem u35r_mk (a c d e f g h i j : FV) (S : FAW) : u35r (.mk a c d e f g h i j ) S = .ok (.u [c, d]) S := rfl
theorem cl35 (n : Nat) (args : List FV) (F : FAW) : clU dskD (n + 1) 35 args F = u35 (clU dskD n) n args F := clU_get (fun k => by kernel_rfl) n args F
theorem u36_in (C : CU) (n : Nat) (p0 p1 : FV) (F : FAW) : u36 C n [p0, p1] F = u36b C n (.mk p0 p1 (.u []) (.u []) (.u []) (.u []) (.u [])) F fun o v F => exU o (u36r v F) (fun _ => .no) (u36r v F) := rfl
theorem u36r_mk (a c d e f g h : FV) (S : FAW) : u36r (.mk a c d e f g h ) S = .ok d S := rfl
theorem cl36 (n : Nat) (args : List FV) (F : FAW) : clU dskD (n + 1) 36 args F = u36 (clU dskD n) n args F := clU_get (fun k => by kernel_rfl) n args F
theorem u37_in (C : CU) (n : Nat) (p0 : FV) (F : FAW) : u37 C n [p0] F = u37b C n (.mk p0 (.u []) (.u []) (.u []) (.u []) (.u []) (.u []) (.u []) (.u []) (.u []) (.u []) (.u []) (.u []) (.u [])) F fun o v F => exU o (u37r v F) (fun _ => .no) (u37r v F) := rfl
theorem u37r_mk (a c d e f g h i j k l m o p : FV) (S : FAW) : u37r (.mk a c d e f g h i j k l m o p ) S = .ok (.u [c, d, e]) S := rfl
theorem cl37 (n : Nat) (args : List FV) (F : FAW) : clU dskD (n + 1) 37 args F = u37 (clU dskD n) n args F := clU_get (fun k => by kernel_rfl) n args F
theorem u38_in (C : CU) (n : Nat) (p0 p1 : FV) (F : FAW) : u38 C n [p0, p1] F = u38b C n (.mk p0 p1 (.u []) (.u []) (.u []) (.u []) (.u []) (.u []) (.u []) (.u []) (.u []) (.u [])) F fun o v F => exU o (u38r v F) (fun _ => .no) (u38r v F) := rfl
theorem u38r_mk (a c d e f g h i j k l m : FV) (S : FAW) : u38r (.mk a c d e f g h i j k l m ) S = .ok d S := rfl
theorem cl38 (n : Nat) (args : List FV) (F : FAW) : clU dskD (n + 1) 38 args F = u38 (clU dskD n) n args F := clU_get (fun k => by kernel_rfl) n args F
theorem u39_in (C : CU) (n : Nat) (p0 : FV) (F : FAW) : u39 C n [p0] F = u39b C n (.mk p0 (.u []) (.u [])) F fun o v F => exU o (u39r v F) (fun _ => .no) (u39r v F) := rfl
theorem u39r_mk (a c d : FV) (S : FAW) : u39r (.mk a c d ) S = .ok c S := rfl
theorem cl39 (n : Nat) (args : List FV) (F : FAW) : clU dskD (n + 1) 39 args F = u39 (clU dskD n) n args F := clU_get (fun k => by kernel_rfl) n args F
theorem u40_in (C : CU) (n : Nat) (p0 p1 : FV) (F : FAW) : u40 C n [p0, p1] F = u40b C n (.mk p0 p1 (.u []) (.u []) (.u []) (.u []) (.u []) (.u []) (.u []) (.u []) (.u []) (.u []) (.u []) (.u []) (.u []) (.u []) (.u [])) F fun o v F => exU o (u40r v F) (fun _ => .no) (u40r v F) := rfl
theorem u40r_mk (a c d e f g h i j k l m o p q r s : FV) (S : FAW) : u40r (.mk a c d e f g h i j k l m o p q r s ) S = .ok d S := rfl
theorem cl40 (n : Nat) (args : List FV) (F : FAW) : clU dskD (n + 1) 40 args F = u40 (clU dskD n) n args F := clU_get (fun k => by kernel_rfl) n args F
theorem u49_in (C : CU) (n : Nat) (p0 : FV) (F : FAW) : u49 C n [p0] F = u49b C n (.mk p0 (.u []) (.u []) (.u [])) F fun o v F => exU o (u49r v F) (fun _ => .no) (u49r v F) := rfl
theorem u49r_mk (a c d e : FV) (S : FAW) : u49r (.mk a c d e ) S = .ok c S := rfl
theorem cl49 (n : Nat) (args : List FV) (F : FAW) : clU dskD (n + 1) 49 args F = u49 (clU dskD n) n args F := clU_get (fun k => by kernel_rfl) n args F
theorem u50_in (C : CU) (n : Nat) (p0 p1 p2 : FV) (F : FAW) : u50 C n [p0, p1, p2] F = u50b C n (.mk p0 p1 p2 (.u [])) F fun o v F => exU o (u50r v F) (fun _ => .no) (u50r v F) := rfl
theorem u50r_mk (a c d e : FV) (S : FAW) : u50r (.mk a c d e ) S = .ok (.u []) S := rfl
theorem cl50 (n : Nat) (args : List FV) (F : FAW) : clU dskD (n + 1) 50 args F = u50 (clU dskD n) n args F := clU_get (fun k => by kernel_rfl) n args F
theorem u51_in (C : CU) (n : Nat) (p0 : FV) (F : FAW) : u51 C n [p0] F = u51b C n (.mk p0 (.u []) (.u []) (.u []) (.u []) (.u []) (.u []) (.u []) (.u []) (.u []) (.u []) (.u []) (.u []) (.u []) (.u [])) F fun o v F => exU o (u51r v F) (fun _ => .no) (u51r v F) := rfl
theorem u51r_mk (a c d e f g h i j k l m o p q : FV) (S : FAW) : u51r (.mk a c d e f g h i j k l m o p q ) S = .ok c S := rfl
theorem cl51 (n : Nat) (args : List FV) (F : FAW) : clU dskD (n + 1) 51 args F = u51 (clU dskD n) n args F := clU_get (fun k => by kernel_rfl) n args F
theorem u52_in (C : CU) (n : Nat) (p0 p1 p2 : FV) (F : FAW) : u52 C n [p0, p1, p2] F = u52b C n (.mk p0 p1 p2 (.u []) (.u []) (.u [])) F fun o v F => exU o (u52r v F) (fun _ => .no) (u52r v F) := rfl
theorem u52r_mk (a c d e f g : FV) (S : FAW) : u52r (.mk a c d e f g ) S = .ok e S := rfl
theorem cl52 (n : Nat) (args : List FV) (F : FAW) : clU dskD (n + 1) 52 args F = u52 (clU dskD n) n args F := clU_get (fun k => by kernel_rfl) n args F
theorem u53_in (C : CU) (n : Nat) (p0 p1 : FV) (F : FAW) : u53 C n [p0, p1] F = u53b C n (.mk p0 p1 (.u []) (.u []) (.u []) (.u []) (.u [])) F fun o v F => exU o (u53r v F) (fun _ => .no) (u53r v F) := rfl
theorem u53r_mk (a c d e f g h : FV) (S : FAW) : u53r (.mk a c d e f g h ) S = .ok d S := rfl
theorem cl53 (n : Nat) (args : List FV) (F : FAW) : clU dskD (n + 1) 53 args F = u53 (clU dskD n) n args F := clU_get (fun k => by kernel_rfl) n args F
theorem u54_in (C : CU) (n : Nat) (p0 p1 : FV) (F : FAW) : u54 C n [p0, p1] F = u54b C n (.mk p0 p1 (.u [])) F fun o v F => exU o (u54r v F) (fun _ => .no) (u54r v F) := rfl
theorem u54r_mk (a c d : FV) (S : FAW) : u54r (.mk a c d ) S = .ok (.u []) S := rfl
theorem cl54 (n : Nat) (args : List FV) (F : FAW) : clU dskD (n + 1) 54 args F = u54 (clU dskD n) n args F := clU_get (fun k => by kernel_rfl) n args F
theorem u55_in (C : CU) (n : Nat) (F : FAW) : u55 C n [] F = u55b C n (.mk) F fun o v F => exU o (u55r v F) (fun _ => .no) (u55r v F) := rfl
theorem u55r_mk (S : FAW) : u55r (.mk ) S = .ok (.u []) S := rfl
theorem cl55 (n : Nat) (args : List FV) (F : FAW) : clU dskD (n + 1) 55 args F = u55 (clU dskD n) n args F := clU_get (fun k => by kernel_rfl) n args F
theorem u56_in (C : CU) (n : Nat) (p0 : FV) (F : FAW) : u56 C n [p0] F = u56b C n (.mk p0 (.u []) (.u [])) F fun o v F => exU o (u56r v F) (fun _ => .no) (u56r v F) := rfl
theorem u56r_mk (a c d : FV) (S : FAW) : u56r (.mk a c d ) S = .ok c S := rfl
theorem cl56 (n : Nat) (args : List FV) (F : FAW) : clU dskD (n + 1) 56 args F = u56 (clU dskD n) n args F := clU_get (fun k => by kernel_rfl) n args F
theorem u57_in (C : CU) (n : Nat) (p0 p1 p2 : FV) (F : FAW) : u57 C n [p0, p1, p2] F = u57b C n (.mk p0 p1 p2 (.u [])) F fun o v F => exU o (u57r v F) (fun _ => .no) (u57r v F) := rfl
theorem u57r_mk (a c d e : FV) (S : FAW) : u57r (.mk a c d e ) S = .ok (.u []) S := rfl
theorem cl57 (n : Nat) (args : List FV) (F : FAW) : clU dskD (n + 1) 57 args F = u57 (clU dskD n) n args F := clU_get (fun k => by kernel_rfl) n args F
theorem u58_in (C : CU) (n : Nat) (F : FAW) : u58 C n [] F = u58b C n (.mk) F fun o v F => exU o (u58r v F) (fun _ => .no) (u58r v F) := rfl
theorem u58r_mk (S : FAW) : u58r (.mk ) S = .ok (.u []) S := rfl
theorem cl58 (n : Nat) (args : List FV) (F : FAW) : clU dskD (n + 1) 58 args F = u58 (clU dskD n) n args F := clU_get (fun k => by kernel_rfl) n args F
theorem u62_in (C : CU) (n : Nat) (p0 p1 : FV) (F : FAW) : u62 C n [p0, p1] F = u62b C n (.mk p0 p1) F fun o v F => exU o (u62r v F) (fun _ => .no) (u62r v F) := rfl
theorem u62r_mk (a c : FV) (S : FAW) : u62r (.mk a c ) S = .ok (.u []) S := rfl
theorem cl62 (n : Nat) (args : List FV) (F : FAW) : clU dskD (n + 1) 62 args F = u62 (clU dskD n) n args F := clU_get (fun k => by kernel_rfl) n args F
theorem u63_in (C : CU) (n : Nat) (F : FAW) : u63 C n [] F = u63b C n (.mk) F fun o v F => exU o (u63r v F) (fun _ => .no) (u63r v F) := rfl
theorem u63r_mk (S : FAW) : u63r (.mk ) S = .ok (.u []) S := rfl
theorem cl63 (n : Nat) (args : List FV) (F : FAW) : clU dskD (n + 1) 63 args F = u63 (clU dskD n) n args F := clU_get (fun k => by kernel_rfl) n args F
theorem u70_in (C : CU) (n : Nat) (p0 p1 p2 : FV) (F : FAW) : u70 C n [p0, p1, p2] F = u70b C n (.mk p0 p1 p2 (.u []) (.u []) (.u []) (.u []) (.u []) (.u [])) F fun o v F => exU o (u70r v F) (fun _ => .no) (u70r v F) := rfl
theorem u70r_mk (a c d e f g h i j : FV) (S : FAW) : u70r (.mk a c d e f g h i j ) S = .ok e S := rfl
theorem cl70 (n : Nat) (args : List FV) (F : FAW) : clU dskD (n + 1) 70 args F = u70 (clU dskD n) n args F := clU_get (fun k => by kernel_rfl) n args F
theorem u71_in (C : CU) (n : Nat) (p0 : FV) (F : FAW) : u71 C n [p0] F = u71b C n (.mk p0 (.u []) (.u []) (.u []) (.u []) (.u []) (.u []) (.u [])) F fun o v F => exU o (u71r v F) (fun _ => .no) (u71r v F) := rfl
theorem u71r_mk (a c d e f g h i : FV) (S : FAW) : u71r (.mk a c d e f g h i ) S = .ok c S := rfl
theorem cl71 (n : Nat) (args : List FV) (F : FAW) : clU dskD (n + 1) 71 args F = u71 (clU dskD n) n args F := clU_get (fun k => by kernel_rfl) n args F
theorem u72_in (C : CU) (n : Nat) (p0 : FV) (F : FAW) : u72 C n [p0] F = u72b C n (.mk p0 (.u []) (.u []) (.u []) (.u []) (.u []) (.u []) (.u []) (.u [])) F fun o v F => exU o (u72r v F) (fun _ => .no) (u72r v F) := rfl
theorem u72r_mk (a c d e f g h i j : FV) (S : FAW) : u72r (.mk a c d e f g h i j ) S = .ok (.u [c, d, e]) S := rfl
theorem cl72 (n : Nat) (args : List FV) (F : FAW) : clU dskD (n + 1) 72 args F = u72 (clU dskD n) n args F := clU_get (fun k => by kernel_rfl) n args F
theorem u73_in (C : CU) (n : Nat) (p0 : FV) (F : FAW) : u73 C n [p0] F = u73b C n (.mk p0 (.u []) (.u []) (.u []) (.u []) (.u []) (.u []) (.u []) (.u []) (.u []) (.u [])) F fun o v F => exU o (u73r v F) (fun _ => .no) (u73r v F) := rfl
theorem u73r_mk (a c d e f g h i j k l : FV) (S : FAW) : u73r (.mk a c d e f g h i j k l ) S = .ok (.u [c, d, e]) S := rfl
theorem cl73 (n : Nat) (args : List FV) (F : FAW) : clU dskD (n + 1) 73 args F = u73 (clU dskD n) n args F := clU_get (fun k => by kernel_rfl) n args F
theorem u74_in (C : CU) (n : Nat) (p0 : FV) (F : FAW) : u74 C n [p0] F = u74b C n (.mk p0 (.u []) (.u [])) F fun o v F => exU o (u74r v F) (fun _ => .no) (u74r v F) := rfl
theorem u74r_mk (a c d : FV) (S : FAW) : u74r (.mk a c d ) S = .ok c S := rfl
theorem cl74 (n : Nat) (args : List FV) (F : FAW) : clU dskD (n + 1) 74 args F = u74 (clU dskD n) n args F := clU_get (fun k => by kernel_rfl) n args F
theorem u75_in (C : CU) (n : Nat) (p0 : FV) (F : FAW) : u75 C n [p0] F = u75b C n (.mk p0 (.u []) (.u []) (.u [])) F fun o v F => exU o (u75r v F) (fun _ => .no) (u75r v F) := rfl
theorem u75r_mk (a c d e : FV) (S : FAW) : u75r (.mk a c d e ) S = .ok c S := rfl
theorem cl75 (n : Nat) (args : List FV) (F : FAW) : clU dskD (n + 1) 75 args F = u75 (clU dskD n) n args F := clU_get (fun k => by kernel_rfl) n args F
theorem u76_in (C : CU) (n : Nat) (p0 p1 : FV) (F : FAW) : u76 C n [p0, p1] F = u76b C n (.mk p0 p1 (.u []) (.u []) (.u []) (.u []) (.u [])) F fun o v F => exU o (u76r v F) (fun _ => .no) (u76r v F) := rfl
theorem u76r_mk (a c d e f g h : FV) (S : FAW) : u76r (.mk a c d e f g h ) S = .ok d S := rfl
theorem cl76 (n : Nat) (args : List FV) (F : FAW) : clU dskD (n + 1) 76 args F = u76 (clU dskD n) n args F := clU_get (fun k => by kernel_rfl) n args F
theorem u81_in (C : CU) (n : Nat) (p0 p1 : FV) (F : FAW) : u81 C n [p0, p1] F = u81b C n (.mk p0 p1 (.u []) (.u []) (.u [])) F fun o v F => exU o (u81r v F) (fun _ => .no) (u81r v F) := rfl
theorem u81r_mk (a c d e f : FV) (S : FAW) : u81r (.mk a c d e f ) S = .ok d S := rfl
theorem cl81 (n : Nat) (args : List FV) (F : FAW) : clU dskD (n + 1) 81 args F = u81 (clU dskD n) n args F := clU_get (fun k => by kernel_rfl) n args F
theorem u86_in (C : CU) (n : Nat) (p0 p1 : FV) (F : FAW) : u86 C n [p0, p1] F = u86b C n (.mk p0 p1 (.u []) (.u []) (.u []) (.u []) (.u []) (.u [])) F fun o v F => exU o (u86r v F) (fun _ => .no) (u86r v F) := rfl
theorem u86r_mk (a c d e f g h i : FV) (S : FAW) : u86r (.mk a c d e f g h i ) S = .ok (.u [d, e]) S := rfl
theorem cl86 (n : Nat) (args : List FV) (F : FAW) : clU dskD (n + 1) 86 args F = u86 (clU dskD n) n args F := clU_get (fun k => by kernel_rfl) n args F
theorem u87_in (C : CU) (n : Nat) (p0 : FV) (F : FAW) : u87 C n [p0] F = u87b C n (.mk p0 (.u []) (.u []) (.u []) (.u []) (.u []) (.u []) (.u [])) F fun o v F => exU o (u87r v F) (fun _ => .no) (u87r v F) := rfl
theorem u87r_mk (a c d e f g h i : FV) (S : FAW) : u87r (.mk a c d e f g h i ) S = .ok c S := rfl
theorem cl87 (n : Nat) (args : List FV) (F : FAW) : clU dskD (n + 1) 87 args F = u87 (clU dskD n) n args F := clU_get (fun k => by kernel_rfl) n args F
theorem u88_in (C : CU) (n : Nat) (p0 p1 : FV) (F : FAW) : u88 C n [p0, p1] F = u88b C n (.mk p0 p1 (.u []) (.u []) (.u []) (.u []) (.u []) (.u []) (.u [])) F fun o v F => exU o (u88r v F) (fun _ => .no) (u88r v F) := rfl
theorem u88r_mk (a c d e f g h i j : FV) (S : FAW) : u88r (.mk a c d e f g h i j ) S = .ok (.u [d, e]) S := rfl
theorem cl88 (n : Nat) (args : List FV) (F : FAW) : clU dskD (n + 1) 88 args F = u88 (clU dskD n) n args F := clU_get (fun k => by kernel_rfl) n args F
theorem u89_in (C : CU) (n : Nat) (p0 p1 : FV) (F : FAW) : u89 C n [p0, p1] F = u89b C n (.mk p0 p1 (.u [])) F fun o v F => exU o (u89r v F) (fun _ => .no) (u89r v F) := rfl
theorem u89r_mk (a c d : FV) (S : FAW) : u89r (.mk a c d ) S = .ok d S := rfl
theorem cl89 (n : Nat) (args : List FV) (F : FAW) : clU dskD (n + 1) 89 args F = u89 (clU dskD n) n args F := clU_get (fun k => by kernel_rfl) n args F
theorem u90_in (C : CU) (n : Nat) (p0 p1 p2 : FV) (F : FAW) : u90 C n [p0, p1, p2] F = u90b C n (.mk p0 p1 p2 (.u []) (.u []) (.u []) (.u []) (.u [])) F fun o v F => exU o (u90r v F) (fun _ => .no) (u90r v F) := rfl
theorem u90r_mk (a c d e f g h i : FV) (S : FAW) : u90r (.mk a c d e f g h i ) S = .ok e S := rfl
theorem cl90 (n : Nat) (args : List FV) (F : FAW) : clU dskD (n + 1) 90 args F = u90 (clU dskD n) n args F := clU_get (fun k => by kernel_rfl) n args F
theorem u94_in (C : CU) (n : Nat) (p0 : FV) (F : FAW) : u94 C n [p0] F = u94b C n (.mk p0 (.u [])) F fun o v F => exU o (u94r v F) (fun _ => .no) (u94r v F) := rfl
theorem u94r_mk (a c : FV) (S : FAW) : u94r (.mk a c ) S = .ok c S := rfl
theorem cl94 (n : Nat) (args : List FV) (F : FAW) : clU dskD (n + 1) 94 args F = u94 (clU dskD n) n args F := clU_get (fun k => by kernel_rfl) n args F
theorem u95_in (C : CU) (n : Nat) (p0 p1 : FV) (F : FAW) : u95 C n [p0, p1] F = u95b C n (.mk p0 p1 (.u []) (.u []) (.u []) (.u []) (.u []) (.u [])) F fun o v F => exU o (u95r v F) (fun _ => .no) (u95r v F) := rfl
theorem u95r_mk (a c d e f g h i : FV) (S : FAW) : u95r (.mk a c d e f g h i ) S = .ok d S := rfl
theorem cl95 (n : Nat) (args : List FV) (F : FAW) : clU dskD (n + 1) 95 args F = u95 (clU dskD n) n args F := clU_get (fun k => by kernel_rfl) n args F
theorem cl23 (n : Nat) (args : List FV) (F : FAW) : clU dskD (n + 1) 23 args F = u23 (clU dskD n) n args F := clU_get (fun k => by kernel_rfl) n args F
theorem cl22 (n : Nat) (args : List FV) (F : FAW) : clU dskD (n + 1) 22 args F = u22 (clU dskD n) n args F := clU_get (fun k => by kernel_rfl) n args F
theorem cl19 (n : Nat) (args : List FV) (F : FAW) : clU dskD (n + 1) 19 args F = u19 (clU dskD n) n args F := clU_get (fun k => by kernel_rfl) n args F
theorem cl24 (n : Nat) (args : List FV) (F : FAW) : clU dskD (n + 1) 24 args F = u24 (clU dskD n) n args F := clU_get (fun k => by kernel_rfl) n args F
end Go.Proofs.Ythclmjelknibhaa.Ev
