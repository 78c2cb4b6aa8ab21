/- The texts, for reasoning: how each function is entered and left. -/
import Derived.Test.YtgejdfhfgphcbaaKindY
import Derived.Test.YtgejdfhfgphcbaaEvS
namespace Go.Proofs.Ytgejdfhfgphcbaa.Ev
open Go Go.RowKit
set_option linter.unusedVariables false
set_option linter.constructorNameAsVariable false
theorem u6_in (C : CU) (n : Nat) (p0 p1 : FV) (F : FAW) : u6 C n [p0, p1] F = u6b C n (.mk p0 p1 (.u []) (.u []) (.u []) (.u []) (.u []) (.u []) (.u []) (.u []) (.u []) (.u []) (.u []) (.u []) (.u []) (.u []) (.u []) (.u [])) F fun o v F => exU o (u6r v F) (fun _ => .no) (u6r v F) := rfl
theorem u6r_mk (a c d e f g h i j k l m o p q r s t : FV) (S : FAW) : u6r (.mk a c d e f g h i j k l m o p q r s t ) S = .ok d S := rfl
theorem cl6 (n : Nat) (args : List FV) (F : FAW) : clU kindD (n + 1) 6 args F = u6 (clU kindD n) n args F := clU_get (fun k => by kernel_rfl) n args F
theorem u7_in (C : CU) (n : Nat) (p0 : FV) (F : FAW) : u7 C n [p0] F = u7b C n (.mk p0 (.u []) (.u []) (.u []) (.u []) (.u []) (.u []) (.u []) (.u []) (.u []) (.u []) (.u [])) F fun o v F => exU o (u7r v F) (fun _ => .no) (u7r v F) := rfl
theorem u7r_mk (a c d e f g h i j k l m : FV) (S : FAW) : u7r (.mk a c d e f g h i j k l m ) S = .ok c S := rfl
theorem cl7 (n : Nat) (args : List FV) (F : FAW) : clU kindD (n + 1) 7 args F = u7 (clU kindD n) n args F := clU_get (fun k => by kernel_rfl) n args F
theorem u8_in (C : CU) (n : Nat) (p0 : FV) (F : FAW) : u8 C n [p0] F = u8b C n (.mk p0 (.u []) (.u []) (.u []) (.u []) (.u []) (.u []) (.u []) (.u []) (.u []) (.u []) (.u [])) F fun o v F => exU o (u8r v F) (fun _ => .no) (u8r v F) := rfl
theorem u8r_mk (a c d e f g h i j k l m : FV) (S : FAW) : u8r (.mk a c d e f g h i j k l m ) S = .ok c S := rfl
theorem cl8 (n : Nat) (args : List FV) (F : FAW) : clU kindD (n + 1) 8 args F = u8 (clU kindD n) n args F := clU_get (fun k => by kernel_rfl) n args F
theorem u9_in (C : CU) (n : Nat) (F : FAW) : u9 C n [] F = u9b C n (.mk (.u []) (.u []) (.u []) (.u []) (.u []) (.u []) (.u []) (.u []) (.u []) (.u []) (.u []) (.u []) (.u []) (.u []) (.u [])) F fun o v F => exU o (u9r v F) (fun _ => .no) (u9r v F) := rfl
theorem u9r_mk (a c d e f g h i j k l m o p q : FV) (S : FAW) : u9r (.mk a c d e f g h i j k l m o p q ) S = .ok a S := rfl
theorem cl9 (n : Nat) (args : List FV) (F : FAW) : clU kindD (n + 1) 9 args F = u9 (clU kindD n) n args F := clU_get (fun k => by kernel_rfl) n args F
theorem u10_in (C : CU) (n : Nat) (p0 : FV) (F : FAW) : u10 C n [p0] F = u10b C n (.mk p0 (.u []) (.u []) (.u []) (.u []) (.u []) (.u []) (.u []) (.u []) (.u []) (.u []) (.u []) (.u []) (.u []) (.u []) (.u []) (.u []) (.u []) (.u []) (.u []) (.u [])) F fun o v F => exU o (u10r v F) (fun _ => .no) (u10r v F) := rfl
theorem u10r_mk (a c d e f g h i j k l m o p q r s t w x y : FV) (S : FAW) : u10r (.mk a c d e f g h i j k l m o p q r s t w x y ) S = .ok c S := rfl
theorem cl10 (n : Nat) (args : List FV) (F : FAW) : clU kindD (n + 1) 10 args F = u10 (clU kindD n) n args F := clU_get (fun k => by kernel_rfl) n args F
theorem u20_in (C : CU) (n : Nat) (F : FAW) : u20 C n [] F = u20b C n (.mk (.u []) (.u []) (.u []) (.u []) (.u []) (.u [])) F fun o v F => exU o (u20r v F) (fun _ => .no) (u20r v F) := rfl
theorem u20r_mk (a c d e f g : FV) (S : FAW) : u20r (.mk a c d e f g ) S = .ok a S := rfl
theorem cl20 (n : Nat) (args : List FV) (F : FAW) : clU kindD (n + 1) 20 args F = u20 (clU kindD n) n args F := clU_get (fun k => by kernel_rfl) n args F
theorem u21_in (C : CU) (n : Nat) (p0 : FV) (F : FAW) : u21 C n [p0] F = u21b C n (.mk p0 (.u []) (.u []) (.u []) (.u []) (.u []) (.u []) (.u []) (.u []) (.u []) (.u []) (.u []) (.u [])) F fun o v F => exU o (u21r v F) (fun _ => .no) (u21r v F) := rfl
theorem u21r_mk (a c d e f g h i j k l m o : FV) (S : FAW) : u21r (.mk a c d e f g h i j k l m o ) S = .ok (.u [c, d, e, f, g]) S := rfl
theorem cl21 (n : Nat) (args : List FV) (F : FAW) : clU kindD (n + 1) 21 args F = u21 (clU kindD n) n args F := clU_get (fun k => by kernel_rfl) n args F
theorem u22_in (C : CU) (n : Nat) (p0 : FV) (F : FAW) : u22 C n [p0] F = u22b C n (.mk p0 (.u []) (.u []) (.u []) (.u []) (.u []) (.u [])) F fun o v F => exU o (u22r v F) (fun _ => .no) (u22r v F) := rfl
theorem u22r_mk (a c d e f g h : FV) (S : FAW) : u22r (.mk a c d e f g h ) S = uLd (some 4) c S fun r2 _ => .ok (.u [r2, d]) S := rfl
theorem cl22 (n : Nat) (args : List FV) (F : FAW) : clU kindD (n + 1) 22 args F = u22 (clU kindD n) n args F := clU_get (fun k => by kernel_rfl) n args F
theorem u23_in (C : CU) (n : Nat) (p0 : FV) (F : FAW) : u23 C n [p0] F = u23b C n (.mk p0 (.u []) (.u []) (.u [])) F fun o v F => exU o (u23r v F) (fun _ => .no) (u23r v F) := rfl
theorem u23r_mk (a c d e : FV) (S : FAW) : u23r (.mk a c d e ) S = .ok c S := rfl
theorem cl23 (n : Nat) (args : List FV) (F : FAW) : clU kindD (n + 1) 23 args F = u23 (clU kindD n) n args F := clU_get (fun k => by kernel_rfl) n args F
theorem u24_in (C : CU) (n : Nat) (p0 : FV) (F : FAW) : u24 C n [p0] F = u24b C n (.mk p0 (.u []) (.u []) (.u []) (.u []) (.u []) (.u []) (.u [])) F fun o v F => exU o (u24r v F) (fun _ => .no) (u24r v F) := rfl
theorem u24r_mk (a c d e f g h i : FV) (S : FAW) : u24r (.mk a c d e f g h i ) S = .ok c S := rfl
theorem cl24 (n : Nat) (args : List FV) (F : FAW) : clU kindD (n + 1) 24 args F = u24 (clU kindD n) n args F := clU_get (fun k => by kernel_rfl) n args F
theorem u25_in (C : CU) (n : Nat) (p0 : FV) (F : FAW) : u25 C n [p0] F = u25b C n (.mk p0 (.u []) (.u [])) F fun o v F => exU o (u25r v F) (fun _ => .no) (u25r v F) := rfl
theorem u25r_mk (a c d : FV) (S : FAW) : u25r (.mk a c d ) S = .ok c S := rfl
theorem cl25 (n : Nat) (args : List FV) (F : FAW) : clU kindD (n + 1) 25 args F = u25 (clU kindD n) n args F := clU_get (fun k => by kernel_rfl) n args F
theorem u26_in (C : CU) (n : Nat) (p0 : FV) (F : FAW) : u26 C n [p0] F = u26b C n (.mk p0 (.u []) (.u []) (.u [])) F fun o v F => exU o (u26r v F) (fun _ => .no) (u26r v F) := rfl
theorem u26r_mk (a c d e : FV) (S : FAW) : u26r (.mk a c d e ) S = .ok c S := rfl
theorem cl26 (n : Nat) (args : List FV) (F : FAW) : clU kindD (n + 1) 26 args F = u26 (clU kindD n) n args F := clU_get (fun k => by kernel_rfl) n args F
theorem u27_in (C : CU) (n : Nat) (p0 : FV) (F : FAW) : u27 C n [p0] F = u27b C n (.mk p0 (.u []) (.u []) (.u []) (.u []) (.u []) (.u [])) F fun o v F => exU o (u27r v F) (fun _ => .no) (u27r v F) := rfl
theorem u27r_mk (a c d e f g h : FV) (S : FAW) : u27r (.mk a c d e f g h ) S = .ok c S := rfl
theorem cl27 (n : Nat) (args : List FV) (F : FAW) : clU kindD (n + 1) 27 args F = u27 (clU kindD n) n args F := clU_get (fun k => by kernel_rfl) n args F
theorem u28_in (C : CU) (n : Nat) (p0 : FV) (F : FAW) : u28 C n [p0] F = u28b C n (.mk p0 (.u []) (.u []) (.u []) (.u []) (.u [])) F fun o v F => exU o (u28r v F) (fun _ => .no) (u28r v F) := rfl
theorem u28r_mk (a c d e f g : FV) (S : FAW) : u28r (.mk a c d e f g ) S = .ok c S := rfl
theorem cl28 (n : Nat) (args : List FV) (F : FAW) : clU kindD (n + 1) 28 args F = u28 (clU kindD n) n args F := clU_get (fun k => by kernel_rfl) n args F
theorem u29_in (C : CU) (n : Nat) (p0 : FV) (F : FAW) : u29 C n [p0] F = u29b C n (.mk p0 (.u []) (.u []) (.u []) (.u []) (.u [])) F fun o v F => exU o (u29r v F) (fun _ => .no) (u29r v F) := rfl
theorem u29r_mk (a c d e f g : FV) (S : FAW) : u29r (.mk a c d e f g ) S = .ok c S := rfl
theorem cl29 (n : Nat) (args : List FV) (F : FAW) : clU kindD (n + 1) 29 args F = u29 (clU kindD n) n args F := clU_get (fun k => by kernel_rfl) n args F
theorem u30_in (C : CU) (n : Nat) (p0 p1 p2 p3 : FV) (F : FAW) : u30 C n [p0, p1, p2, p3] F = u30b C n (.mk p0 p1 p2 p3 (.u []) (.u []) (.u []) (.u []) (.u []) (.u []) (.u []) (.u []) (.u []) (.u [])) F fun o v F => exU o (u30r v F) (fun _ => .no) (u30r v F) := rfl
theorem u30r_mk (a c d e f g h i j k l m o p : FV) (S : FAW) : u30r (.mk a c d e f g h i j k l m o p ) S = .ok g S := rfl
theorem cl30 (n : Nat) (args : List FV) (F : FAW) : clU kindD (n + 1) 30 args F = u30 (clU kindD n) n args F := clU_get (fun k => by kernel_rfl) n args F
theorem u67_in (C : CU) (n : Nat) (p0 : FV) (F : FAW) : u67 C n [p0] F = u67b C n (.mk p0 (.u []) (.u []) (.u [])) F fun o v F => exU o (u67r v F) (fun _ => .no) (u67r v F) := rfl
theorem u67r_mk (a c d e : FV) (S : FAW) : u67r (.mk a c d e ) S = .ok (.u [c, d, e]) S := rfl
theorem cl67 (n : Nat) (args : List FV) (F : FAW) : clU kindD (n + 1) 67 args F = u67 (clU kindD n) n args F := clU_get (fun k => by kernel_rfl) n args F
theorem u68_in (C : CU) (n : Nat) (p0 p1 : FV) (F : FAW) : u68 C n [p0, p1] F = u68b C n (.mk p0 p1 (.u [])) F fun o v F => exU o (u68r v F) (fun _ => .no) (u68r v F) := rfl
theorem u68r_mk (a c d : FV) (S : FAW) : u68r (.mk a c d ) S = .ok d S := rfl
theorem cl68 (n : Nat) (args : List FV) (F : FAW) : clU kindD (n + 1) 68 args F = u68 (clU kindD n) n args F := clU_get (fun k => by kernel_rfl) n args F
theorem u69_in (C : CU) (n : Nat) (p0 p1 : FV) (F : FAW) : u69 C n [p0, p1] F = u69b C n (.mk p0 p1 (.u []) (.u []) (.u []) (.u []) (.u []) (.u []) (.u []) (.u []) (.u []) (.u []) (.u []) (.u []) (.u []) (.u []) (.u []) (.u []) (.u [])) F fun o v F => exU o (u69r v F) (fun _ => .no) (u69r v F) := rfl
theorem u69r_mk (a c d e f g h i j k l m o p q r s t w : FV) (S : FAW) : u69r (.mk a c d e f g h i j k l m o p q r s t w ) S = uLd (some 4) d S fun r4 _ => .ok r4 S := rfl
theorem cl69 (n : Nat) (args : List FV) (F : FAW) : clU kindD (n + 1) 69 args F = u69 (clU kindD n) n args F := clU_get (fun k => by kernel_rfl) n args F
theorem u70_in (C : CU) (n : Nat) (p0 p1 : FV) (F : FAW) : u70 C n [p0, p1] F = u70b C n (.mk p0 p1 (.u []) (.u []) (.u []) (.u []) (.u []) (.u [])) F fun o v F => exU o (u70r v F) (fun _ => .no) (u70r v F) := rfl
theorem u70r_mk (a c d e f g h i : FV) (S : FAW) : u70r (.mk a c d e f g h i ) S = .ok d S := rfl
theorem cl70 (n : Nat) (args : List FV) (F : FAW) : clU kindD (n + 1) 70 args F = u70 (clU kindD n) n args F := clU_get (fun k => by kernel_rfl) n args F
theorem u71_in (C : CU) (n : Nat) (p0 p1 : FV) (F : FAW) : u71 C n [p0, p1] F = u71b C n (.mk p0 p1 (.u [])) F fun o v F => exU o (u71r v F) (fun _ => .no) (u71r v F) := rfl
theorem u71r_mk (a c d : FV) (S : FAW) : u71r (.mk a c d ) S = .ok d S := rfl
theorem cl71 (n : Nat) (args : List FV) (F : FAW) : clU kindD (n + 1) 71 args F = u71 (clU kindD n) n args F := clU_get (fun k => by kernel_rfl) n args F
theorem u72_in (C : CU) (n : Nat) (p0 : FV) (F : FAW) : u72 C n [p0] F = u72b C n (.mk p0 (.u []) (.u []) (.u []) (.u []) (.u []) (.u []) (.u []) (.u []) (.u []) (.u []) (.u []) (.u []) (.u [])) F fun o v F => exU o (u72r v F) (fun _ => .no) (u72r v F) := rfl
theorem u72r_mk (a c d e f g h i j k l m o p : FV) (S : FAW) : u72r (.mk a c d e f g h i j k l m o p ) S = .ok c S := rfl
theorem cl72 (n : Nat) (args : List FV) (F : FAW) : clU kindD (n + 1) 72 args F = u72 (clU kindD n) n args F := clU_get (fun k => by kernel_rfl) n args F
theorem u91_in (C : CU) (n : Nat) (p0 p1 : FV) (F : FAW) : u91 C n [p0, p1] F = u91b C n (.mk p0 p1 (.u []) (.u []) (.u []) (.u []) (.u []) (.u []) (.u []) (.u []) (.u []) (.u []) (.u []) (.u [])) F fun o v F => exU o (u91r v F) (fun _ => .no) (u91r v F) := rfl
theorem u91r_mk (a c d e f g h i j k l m o p : FV) (S : FAW) : u91r (.mk a c d e f g h i j k l m o p ) S = .ok (.u [d, e]) S := rfl
theorem cl91 (n : Nat) (args : List FV) (F : FAW) : clU kindD (n + 1) 91 args F = u91 (clU kindD n) n args F := clU_get (fun k => by kernel_rfl) n args F
theorem u92_in (C : CU) (n : Nat) (p0 p1 p2 : FV) (F : FAW) : u92 C n [p0, p1, p2] F = u92b C n (.mk p0 p1 p2 (.u [])) F fun o v F => exU o (u92r v F) (fun _ => .no) (u92r v F) := rfl
theorem u92r_mk (a c d e : FV) (S : FAW) : u92r (.mk a c d e ) S = .ok (.u []) S := rfl
theorem cl92 (n : Nat) (args : List FV) (F : FAW) : clU kindD (n + 1) 92 args F = u92 (clU kindD n) n args F := clU_get (fun k => by kernel_rfl) n args F
theorem u93_in (C : CU) (n : Nat) (p0 p1 : FV) (F : FAW) : u93 C n [p0, p1] F = u93b C n (.mk p0 p1 (.u [])) F fun o v F => exU o (u93r v F) (fun _ => .no) (u93r v F) := rfl
theorem u93r_mk (a c d : FV) (S : FAW) : u93r (.mk a c d ) S = .ok d S := rfl
theorem cl93 (n : Nat) (args : List FV) (F : FAW) : clU kindD (n + 1) 93 args F = u93 (clU kindD n) n args F := clU_get (fun k => by kernel_rfl) n args F
theorem u94_in (C : CU) (n : Nat) (p0 : FV) (F : FAW) : u94 C n [p0] F = u94b C n (.mk p0 (.u [])) F fun o v F => exU o (u94r v F) (fun _ => .no) (u94r v F) := rfl
theorem u94r_mk (a c : FV) (S : FAW) : u94r (.mk a c ) S = .ok c S := rfl
theorem cl94 (n : Nat) (args : List FV) (F : FAW) : clU kindD (n + 1) 94 args F = u94 (clU kindD n) n args F := clU_get (fun k => by kernel_rfl) n args F
theorem u95_in (C : CU) (n : Nat) (p0 : FV) (F : FAW) : u95 C n [p0] F = u95b C n (.mk p0 (.u [])) F fun o v F => exU o (u95r v F) (fun _ => .no) (u95r v F) := rfl
theorem u95r_mk (a c : FV) (S : FAW) : u95r (.mk a c ) S = .ok c S := rfl
theorem cl95 (n : Nat) (args : List FV) (F : FAW) : clU kindD (n + 1) 95 args F = u95 (clU kindD n) n args F := clU_get (fun k => by kernel_rfl) n args F
theorem u96_in (C : CU) (n : Nat) (p0 : FV) (F : FAW) : u96 C n [p0] F = u96b C n (.mk p0 (.u []) (.u []) (.u []) (.u []) (.u [])) F fun o v F => exU o (u96r v F) (fun _ => .no) (u96r v F) := rfl
theorem u96r_mk (a c d e f g : FV) (S : FAW) : u96r (.mk a c d e f g ) S = .ok c S := rfl
theorem cl96 (n : Nat) (args : List FV) (F : FAW) : clU kindD (n + 1) 96 args F = u96 (clU kindD n) n args F := clU_get (fun k => by kernel_rfl) n args F
theorem u97_in (C : CU) (n : Nat) (p0 : FV) (F : FAW) : u97 C n [p0] F = u97b C n (.mk p0 (.u []) (.u []) (.u []) (.u []) (.u []) (.u []) (.u []) (.u []) (.u []) (.u []) (.u []) (.u []) (.u [])) F fun o v F => exU o (u97r v F) (fun _ => .no) (u97r v F) := rfl
theorem u97r_mk (a c d e f g h i j k l m o p : FV) (S : FAW) : u97r (.mk a c d e f g h i j k l m o p ) S = .ok c S := rfl
theorem cl97 (n : Nat) (args : List FV) (F : FAW) : clU kindD (n + 1) 97 args F = u97 (clU kindD n) n args F := clU_get (fun k => by kernel_rfl) n args F
theorem u98_in (C : CU) (n : Nat) (p0 p1 p2 : FV) (F : FAW) : u98 C n [p0, p1, p2] F = u98b C n (.mk p0 p1 p2 (.u []) (.u []) (.u []) (.u [])) F fun o v F => exU o (u98r v F) (fun _ => .no) (u98r v F) := rfl
theorem u98r_mk (a c d e f g h : FV) (S : FAW) : u98r (.mk a c d e f g h ) S = .ok e S := rfl
theorem cl98 (n : Nat) (args : List FV) (F : FAW) : clU kindD (n + 1) 98 args F = u98 (clU kindD n) n args F := clU_get (fun k => by kernel_rfl) n args F
theorem u99_in (C : CU) (n : Nat) (p0 p1 : FV) (F : FAW) : u99 C n [p0, p1] F = u99b C n (.mk p0 p1 (.u [])) F fun o v F => exU o (u99r v F) (fun _ => .no) (u99r v F) := rfl
theorem u99r_mk (a c d : FV) (S : FAW) : u99r (.mk a c d ) S = .ok (.u []) S := rfl
theorem cl99 (n : Nat) (args : List FV) (F : FAW) : clU kindD (n + 1) 99 args F = u99 (clU kindD n) n args F := clU_get (fun k => by kernel_rfl) n args F
theorem u104_in (C : CU) (n : Nat) (p0 : FV) (F : FAW) : u104 C n [p0] F = u104b C n (.mk p0 (.u []) (.u []) (.u [])) F fun o v F => exU o (u104r v F) (fun _ => .no) (u104r v F) := rfl
theorem u104r_mk (a c d e : FV) (S : FAW) : u104r (.mk a c d e ) S = .ok c S := rfl
theorem cl104 (n : Nat) (args : List FV) (F : FAW) : clU kindD (n + 1) 104 args F = u104 (clU kindD n) n args F := clU_get (fun k => by kernel_rfl) n args F
theorem u105_in (C : CU) (n : Nat) (p0 : FV) (F : FAW) : u105 C n [p0] F = u105b C n (.mk p0 (.u []) (.u []) (.u [])) F fun o v F => exU o (u105r v F) (fun _ => .no) (u105r v F) := rfl
theorem u105r_mk (a c d e : FV) (S : FAW) : u105r (.mk a c d e ) S = .ok c S := rfl
theorem cl105 (n : Nat) (args : List FV) (F : FAW) : clU kindD (n + 1) 105 args F = u105 (clU kindD n) n args F := clU_get (fun k => by kernel_rfl) n args F
theorem u106_in (C : CU) (n : Nat) (p0 : FV) (F : FAW) : u106 C n [p0] F = u106b C n (.mk p0 (.u []) (.u []) (.u []) (.u [])) F fun o v F => exU o (u106r v F) (fun _ => .no) (u106r v F) := rfl
theorem u106r_mk (a c d e f : FV) (S : FAW) : u106r (.mk a c d e f ) S = .ok c S := rfl
theorem cl106 (n : Nat) (args : List FV) (F : FAW) : clU kindD (n + 1) 106 args F = u106 (clU kindD n) n args F := clU_get (fun k => by kernel_rfl) n args F
theorem u107_in (C : CU) (n : Nat) (p0 p1 : FV) (F : FAW) : u107 C n [p0, p1] F = u107b C n (.mk p0 p1 (.u [])) F fun o v F => exU o (u107r v F) (fun _ => .no) (u107r v F) := rfl
theorem u107r_mk (a c d : FV) (S : FAW) : u107r (.mk a c d ) S = .ok (.u []) S := rfl
theorem cl107 (n : Nat) (args : List FV) (F : FAW) : clU kindD (n + 1) 107 args F = u107 (clU kindD n) n args F := clU_get (fun k => by kernel_rfl) n args F
theorem u109_in (C : CU) (n : Nat) (p0 : FV) (F : FAW) : u109 C n [p0] F = u109b C n (.mk p0 (.u [])) F fun o v F => exU o (u109r v F) (fun _ => .no) (u109r v F) := rfl
theorem u109r_mk (a c : FV) (S : FAW) : u109r (.mk a c ) S = .ok c S := rfl
theorem cl109 (n : Nat) (args : List FV) (F : FAW) : clU kindD (n + 1) 109 args F = u109 (clU kindD n) n args F := clU_get (fun k => by kernel_rfl) n args F
theorem cl108 (n : Nat) (args : List FV) (F : FAW) : clU kindD (n + 1) 108 args F = u108 (clU kindD n) n args F := clU_get (fun k => by kernel_rfl) n args F
end Go.Proofs.Ytgejdfhfgphcbaa.Ev
