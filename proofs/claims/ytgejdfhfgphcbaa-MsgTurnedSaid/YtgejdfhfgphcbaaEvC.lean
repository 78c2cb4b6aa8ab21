/- Steps are told from their head on: what goes on behind is not looked at before. -/
import Derived.Test.YtgejdfhfgphcbaaEvA
namespace Go.Proofs.Ytgejdfhfgphcbaa.Ev
open Go Go.RowKit
set_option linter.unusedVariables false
set_option linter.constructorNameAsVariable false
set_option linter.unusedSimpArgs false
set_option linter.unusedSectionVars false

@[congr] theorem lz_exU {o o' : EX} (h : o = o') (a : RU) (b : Nat → RU) (c : RU) : exU o a b c = exU o' a b c := by subst h; rfl
@[congr] theorem lz_cn {o o' : Bool} (h : o = o') (a b : RU) : cn o a b = cn o' a b := by subst h; rfl
@[congr] theorem lz_eT {v v' : FV} (h : v = v') (t : Bool → RU) : eT v t = eT v' t := by subst h; rfl
@[congr] theorem lz_eP {v v' : FV} (h : v = v') (t : Nat → Nat → RU) : eP v t = eP v' t := by subst h; rfl
@[congr] theorem lz_eI {v v' : FV} (h : v = v') (t : Nat → RU) : eI v t = eI v' t := by subst h; rfl
@[congr] theorem lz_goOn {r r' : RU} (h : r = r') (f : KU) : goOn r f = goOn r' f := by subst h; rfl
@[congr] theorem lz_loop {V : Type} {v v' : V} {F F' : FAW} (a : CdU V) (κ : EX → V → FAW → RU) (n : Nat) (h : v = v') (k : F = F') : loopNU a κ n v F = loopNU a κ n v' F' := by subst h; subst k; rfl
@[congr] theorem lz_veqU {a a' b b' : FV} (h : a = a') (k : b = b') (r : RU) : veqU a b r = veqU a' b' r := by subst h; subst k; rfl
@[congr] theorem lz_uO {F F' : FAW} (o : Option Value) (hF : F = F') (f : KU) : uO o F f = uO o F' f := by subst hF; rfl
@[congr] theorem lz_uSlow {x x' : FV} {y y' : FV} {F F' : FAW} (op : BinOp) (hx : x = x') (hy : y = y') (hF : F = F') (f : KU) : uSlow op x y F f = uSlow op x' y' F' f := by subst hx; subst hy; subst hF; rfl
@[congr] theorem lz_uNum {F F' : FAW} (m : Nat) (hF : F = F') (f : KU) : uNum m F f = uNum m F' f := by subst hF; rfl
@[congr] theorem lz_uStr {F F' : FAW} (a : List Nat) (b : List Nat) (hF : F = F') (f : KU) : uStr a b F f = uStr a b F' f := by subst hF; rfl
@[congr] theorem lz_uAdd {x x' : FV} {y y' : FV} {F F' : FAW} (hx : x = x') (hy : y = y') (hF : F = F') (f : KU) : uAdd x y F f = uAdd x' y' F' f := by subst hx; subst hy; subst hF; rfl
@[congr] theorem lz_uSubN {x x' : FV} {y y' : FV} {F F' : FAW} (a : Nat) (b : Nat) (hx : x = x') (hy : y = y') (hF : F = F') (f : KU) : uSubN a b x y F f = uSubN a b x' y' F' f := by subst hx; subst hy; subst hF; rfl
@[congr] theorem lz_uSub {x x' : FV} {y y' : FV} {F F' : FAW} (hx : x = x') (hy : y = y') (hF : F = F') (f : KU) : uSub x y F f = uSub x' y' F' f := by subst hx; subst hy; subst hF; rfl
@[congr] theorem lz_uMul {x x' : FV} {y y' : FV} {F F' : FAW} (hx : x = x') (hy : y = y') (hF : F = F') (f : KU) : uMul x y F f = uMul x' y' F' f := by subst hx; subst hy; subst hF; rfl
@[congr] theorem lz_uQuoN {F F' : FAW} (q : Bool) (a : Nat) (b : Nat) (hF : F = F') (f : KU) : uQuoN q a b F f = uQuoN q a b F' f := by subst hF; rfl
@[congr] theorem lz_uQuo {x x' : FV} {y y' : FV} {F F' : FAW} (q : Bool) (op : BinOp) (hx : x = x') (hy : y = y') (hF : F = F') (f : KU) : uQuo q op x y F f = uQuo q op x' y' F' f := by subst hx; subst hy; subst hF; rfl
@[congr] theorem lz_uEq {x x' : FV} {y y' : FV} {F F' : FAW} (neg : Bool) (op : BinOp) (hx : x = x') (hy : y = y') (hF : F = F') (f : KU) : uEq neg op x y F f = uEq neg op x' y' F' f := by subst hx; subst hy; subst hF; rfl
@[congr] theorem lz_uCmp {x x' : FV} {y y' : FV} {F F' : FAW} (g : Nat → Nat → Bool) (op : BinOp) (hx : x = x') (hy : y = y') (hF : F = F') (f : KU) : uCmp g op x y F f = uCmp g op x' y' F' f := by subst hx; subst hy; subst hF; rfl
@[congr] theorem lz_uBin {x x' : FV} {y y' : FV} {F F' : FAW} (op : BinOp) (hx : x = x') (hy : y = y') (hF : F = F') (f : KU) : uBin op x y F f = uBin op x' y' F' f := by subst hx; subst hy; subst hF; rfl
@[congr] theorem lz_uPick {c c' : FV} {a a' : FV} {b b' : FV} {F F' : FAW} (hc : c = c') (ha : a = a') (hb : b = b') (hF : F = F') (f : KU) : uPick c a b F f = uPick c' a' b' F' f := by subst hc; subst ha; subst hb; subst hF; rfl
@[congr] theorem lz_uEqB {a a' : FV} {b b' : FV} {F F' : FAW} (neg : Bool) (ha : a = a') (hb : b = b') (hF : F = F') (f : KU) : uEqB neg a b F f = uEqB neg a' b' F' f := by subst ha; subst hb; subst hF; rfl
@[congr] theorem lz_uEqN {x x' : FV} {y y' : FV} {F F' : FAW} (kind : Nat) (neg : Bool) (hx : x = x') (hy : y = y') (hF : F = F') (f : KU) : uEqN kind neg x y F f = uEqN kind neg x' y' F' f := by subst hx; subst hy; subst hF; rfl
@[congr] theorem lz_uEqA {x x' : FV} {y y' : FV} {F F' : FAW} (neg : Bool) (ls : List KL) (hx : x = x') (hy : y = y') (hF : F = F') (f : KU) : uEqA neg ls x y F f = uEqA neg ls x' y' F' f := by subst hx; subst hy; subst hF; rfl
@[congr] theorem lz_uUn {a a' : FV} {F F' : FAW} (op : UnOp) (ha : a = a') (hF : F = F') (f : KU) : uUn op a F f = uUn op a' F' f := by subst ha; subst hF; rfl
@[congr] theorem lz_uCvIK {F F' : FAW} (k : IntKind) (o : RU) (m : Nat) (hF : F = F') (f : KU) : uCvIK k o m F f = uCvIK k o m F' f := by subst hF; rfl
@[congr] theorem lz_uCvI {a a' : FV} {F F' : FAW} (k : IntKind) (ha : a = a') (hF : F = F') (f : KU) : uCvI k a F f = uCvI k a' F' f := by subst ha; subst hF; rfl
@[congr] theorem lz_uCvS {a a' : FV} {F F' : FAW} (ha : a = a') (hF : F = F') (f : KU) : uCvS a F f = uCvS a' F' f := by subst ha; subst hF; rfl
@[congr] theorem lz_uFldA {l l' : List FV} {F F' : FAW} (sz : Option Nat) (off : Nat) (hl : l = l') (hF : F = F') (f : KU) : uFldA sz off l F f = uFldA sz off l' F' f := by subst hl; subst hF; rfl
@[congr] theorem lz_uFld {a a' : FV} {F F' : FAW} (sz : Option Nat) (off : Nat) (ha : a = a') (hF : F = F') (f : KU) : uFld sz off a F f = uFld sz off a' F' f := by subst ha; subst hF; rfl
@[congr] theorem lz_uExt {a a' : FV} {F F' : FAW} (i : Nat) (ha : a = a') (hF : F = F') (f : KU) : uExt i a F f = uExt i a' F' f := by subst ha; subst hF; rfl
@[congr] theorem lz_uBuild {ps ps' : List (Nat × Nat × FV)} {F F' : FAW} (zero : List Value) (hps : ps = ps') (hF : F = F') (f : KU) : uBuild zero ps F f = uBuild zero ps' F' f := by subst hps; subst hF; rfl
@[congr] theorem lz_uFad {a a' : FV} {F F' : FAW} (off : Nat) (ha : a = a') (hF : F = F') (f : KU) : uFad off a F f = uFad off a' F' f := by subst ha; subst hF; rfl
@[congr] theorem lz_uIadN {F F' : FAW} (size : Nat) (i : Nat) (o : Nat) (n : Nat) (m : Nat) (hF : F = F') (f : KU) : uIadN size i o n m F f = uIadN size i o n m F' f := by subst hF; rfl
@[congr] theorem lz_uIad {a a' : FV} {b b' : FV} {F F' : FAW} (size : Nat) (ha : a = a') (hb : b = b') (hF : F = F') (f : KU) : uIad size a b F f = uIad size a' b' F' f := by subst ha; subst hb; subst hF; rfl
@[congr] theorem lz_uIadA {a a' : FV} {b b' : FV} {F F' : FAW} (ln : Nat) (size : Nat) (ha : a = a') (hb : b = b') (hF : F = F') (f : KU) : uIadA ln size a b F f = uIadA ln size a' b' F' f := by subst ha; subst hb; subst hF; rfl
@[congr] theorem lz_uIdxS {a a' : FV} {b b' : FV} {F F' : FAW} (ha : a = a') (hb : b = b') (hF : F = F') (f : KU) : uIdxS a b F f = uIdxS a' b' F' f := by subst ha; subst hb; subst hF; rfl
@[congr] theorem lz_uIdxA {a a' : FV} {b b' : FV} {F F' : FAW} (ln : Nat) (size : Nat) (ag : Bool) (ha : a = a') (hb : b = b') (hF : F = F') (f : KU) : uIdxA ln size ag a b F f = uIdxA ln size ag a' b' F' f := by subst ha; subst hb; subst hF; rfl
@[congr] theorem lz_uSlSL {lo lo' : Option FV} {hi hi' : Option FV} {F F' : FAW} (s : List Nat) (hlo : lo = lo') (hhi : hi = hi') (hF : F = F') (f : KU) : uSlSL s lo hi F f = uSlSL s lo' hi' F' f := by subst hlo; subst hhi; subst hF; rfl
@[congr] theorem lz_uSlS {a a' : FV} {lo lo' : Option FV} {hi hi' : Option FV} {F F' : FAW} (ha : a = a') (hlo : lo = lo') (hhi : hi = hi') (hF : F = F') (f : KU) : uSlS a lo hi F f = uSlS a' lo' hi' F' f := by subst ha; subst hlo; subst hhi; subst hF; rfl
@[congr] theorem lz_uSlVL {lo lo' : Option FV} {hi hi' : Option FV} {mx mx' : Option FV} {F F' : FAW} (size : Nat) (i : Nat) (o : Nat) (n : Nat) (c : Nat) (hlo : lo = lo') (hhi : hi = hi') (hmx : mx = mx') (hF : F = F') (f : KU) : uSlVL size i o n c lo hi mx F f = uSlVL size i o n c lo' hi' mx' F' f := by subst hlo; subst hhi; subst hmx; subst hF; rfl
@[congr] theorem lz_uSlVN {lo lo' : Option FV} {hi hi' : Option FV} {mx mx' : Option FV} {F F' : FAW} (hlo : lo = lo') (hhi : hi = hi') (hmx : mx = mx') (hF : F = F') (f : KU) : uSlVN lo hi mx F f = uSlVN lo' hi' mx' F' f := by subst hlo; subst hhi; subst hmx; subst hF; rfl
@[congr] theorem lz_uSlV {a a' : FV} {lo lo' : Option FV} {hi hi' : Option FV} {mx mx' : Option FV} {F F' : FAW} (size : Nat) (ha : a = a') (hlo : lo = lo') (hhi : hi = hi') (hmx : mx = mx') (hF : F = F') (f : KU) : uSlV size a lo hi mx F f = uSlV size a' lo' hi' mx' F' f := by subst ha; subst hlo; subst hhi; subst hmx; subst hF; rfl
@[congr] theorem lz_uNilc {a a' : FV} {F F' : FAW} (ha : a = a') (hF : F = F') (f : KU) : uNilc a F f = uNilc a' F' f := by subst ha; subst hF; rfl
@[congr] theorem lz_uLen {a a' : FV} {F F' : FAW} (str : Bool) (ha : a = a') (hF : F = F') (f : KU) : uLen str a F f = uLen str a' F' f := by subst ha; subst hF; rfl
@[congr] theorem lz_uLdP {F F' : FAW} (sz : Option Nat) (i : Nat) (o : Nat) (hF : F = F') (f : KU) : uLdP sz i o F f = uLdP sz i o F' f := by subst hF; rfl
@[congr] theorem lz_uLd {a a' : FV} {F F' : FAW} (sz : Option Nat) (ha : a = a') (hF : F = F') (f : KU) : uLd sz a F f = uLd sz a' F' f := by subst ha; subst hF; rfl
@[congr] theorem lz_uCvBS {a a' : FV} {F F' : FAW} (ha : a = a') (hF : F = F') (f : KU) : uCvBS a F f = uCvBS a' F' f := by subst ha; subst hF; rfl
@[congr] theorem lz_uStR {vs vs' : List FV} {F F' : FAW} (size : Nat) (i : Nat) (o : Nat) (hvs : vs = vs') (hF : F = F') (f : KU) : uStR size i o vs F f = uStR size i o vs' F' f := by subst hvs; subst hF; rfl
@[congr] theorem lz_uSt {a a' : FV} {w w' : FV} {F F' : FAW} (size : Nat) (ha : a = a') (hw : w = w') (hF : F = F') (f : KU) : uSt size a w F f = uSt size a' w' F' f := by subst ha; subst hw; subst hF; rfl
@[congr] theorem lz_uBox {w w' : FV} {F F' : FAW} (elem : Nat) (es : Nat) (hw : w = w') (hF : F = F') (f : KU) : uBox elem es w F f = uBox elem es w' F' f := by subst hw; subst hF; rfl
@[congr] theorem lz_uNew {F F' : FAW} (elem : Nat) (es : Nat) (cells : List Value) (hF : F = F') (f : KU) : uNew elem es cells F f = uNew elem es cells F' f := by subst hF; rfl
@[congr] theorem lz_uLit {ps ps' : List (Nat × Nat × FV)} {F F' : FAW} (elem : Nat) (size : Nat) (zero : List Value) (n : Nat) (hps : ps = ps') (hF : F = F') (f : KU) : uLit elem size zero n ps F f = uLit elem size zero n ps' F' f := by subst hps; subst hF; rfl
@[congr] theorem lz_uMks {l l' : FV} {c c' : FV} {F F' : FAW} (elem : Nat) (size : Nat) (bytes : Nat) (zero : List Value) (hl : l = l') (hc : c = c') (hF : F = F') (f : KU) : uMks elem size bytes zero l c F f = uMks elem size bytes zero l' c' F' f := by subst hl; subst hc; subst hF; rfl
@[congr] theorem lz_uCvSB {a a' : FV} {F F' : FAW} (elem : Nat) (ha : a = a') (hF : F = F') (f : KU) : uCvSB elem a F f = uCvSB elem a' F' f := by subst ha; subst hF; rfl
@[congr] theorem lz_uApp {s s' : FV} {x x' : FV} {F F' : FAW} (elem : Nat) (size : Nat) (bytes : Nat) (hs : s = s') (hx : x = x') (hF : F = F') (f : KU) : uApp elem size bytes s x F f = uApp elem size bytes s' x' F' f := by subst hs; subst hx; subst hF; rfl
@[congr] theorem lz_uMlk {x x' : FV} {k k' : FV} {F F' : FAW} (ks : KS) (z : Value) (ok : Bool) (hx : x = x') (hk : k = k') (hF : F = F') (f : KU) : uMlk ks z ok x k F f = uMlk ks z ok x' k' F' f := by subst hx; subst hk; subst hF; rfl
@[congr] theorem lz_uMup {x x' : FV} {k k' : FV} {w w' : FV} {F F' : FAW} (ks : KS) (hx : x = x') (hk : k = k') (hw : w = w') (hF : F = F') (f : KU) : uMup ks x k w F f = uMup ks x' k' w' F' f := by subst hx; subst hk; subst hw; subst hF; rfl
@[congr] theorem lz_uMkm {r r' : Option FV} {F F' : FAW} (hr : r = r') (hF : F = F') (f : KU) : uMkm r F f = uMkm r' F' f := by subst hr; subst hF; rfl
@[congr] theorem lz_uLenM {x x' : FV} {F F' : FAW} (hx : x = x') (hF : F = F') (f : KU) : uLenM x F f = uLenM x' F' f := by subst hx; subst hF; rfl
@[congr] theorem lz_uMkf {a a' : List FV} {c c' : List FV} {F F' : FAW} (g : FuncId) (ha : a = a') (hc : c = c') (hF : F = F') (f : KU) : uMkf g a c F f = uMkf g a' c' F' f := by subst ha; subst hc; subst hF; rfl
@[congr] theorem lz_uCallV {g g' : FV} {args args' : List FV} {F F' : FAW} (U : CU) (hg : g = g') (hargs : args = args') (hF : F = F') (f : KU) : uCallV U g args F f = uCallV U g' args' F' f := by subst hg; subst hargs; subst hF; rfl
@[congr] theorem lz_uMM {xs xs' : List FV} {F F' : FAW} (mx : Bool) (hxs : xs = xs') (hF : F = F') (f : KU) : uMM mx xs F f = uMM mx xs' F' f := by subst hxs; subst hF; rfl
@[congr] theorem lz_uNewF {cells cells' : List FV} {F F' : FAW} (elem : Nat) (es : Nat) (hcells : cells = cells') (hF : F = F') (f : KU) : uNewF elem es cells F f = uNewF elem es cells' F' f := by subst hcells; subst hF; rfl
@[congr] theorem lz_uBuildF {zero zero' : List FV} {ps ps' : List (Nat × Nat × FV)} {F F' : FAW} (hzero : zero = zero') (hps : ps = ps') (hF : F = F') (f : KU) : uBuildF zero ps F f = uBuildF zero' ps' F' f := by subst hzero; subst hps; subst hF; rfl
@[congr] theorem lz_uLitF {zero zero' : List FV} {ps ps' : List (Nat × Nat × FV)} {F F' : FAW} (elem : Nat) (size : Nat) (n : Nat) (hzero : zero = zero') (hps : ps = ps') (hF : F = F') (f : KU) : uLitF elem size zero n ps F f = uLitF elem size zero' n ps' F' f := by subst hzero; subst hps; subst hF; rfl
@[congr] theorem lz_uMksF {zero zero' : List FV} {l l' : FV} {c c' : FV} {F F' : FAW} (elem : Nat) (size : Nat) (bytes : Nat) (hzero : zero = zero') (hl : l = l') (hc : c = c') (hF : F = F') (f : KU) : uMksF elem size bytes zero l c F f = uMksF elem size bytes zero' l' c' F' f := by subst hzero; subst hl; subst hc; subst hF; rfl
@[congr] theorem lz_uMlkF {z z' : FV} {x x' : FV} {k k' : FV} {F F' : FAW} (ks : KS) (ok : Bool) (hz : z = z') (hx : x = x') (hk : k = k') (hF : F = F') (f : KU) : uMlkF ks z ok x k F f = uMlkF ks z' ok x' k' F' f := by subst hz; subst hx; subst hk; subst hF; rfl
@[congr] theorem lz_uGet {a a' : FV} {F F' : FAW} (off : Nat) (ha : a = a') (hF : F = F') (f : KU) : uGet off a F f = uGet off a' F' f := by subst ha; subst hF; rfl
@[congr] theorem lz_uNot {a a' : FV} {F F' : FAW} (ha : a = a') (hF : F = F') (f : KU) : uNot a F f = uNot a' F' f := by subst ha; subst hF; rfl
@[congr] theorem lz_uCall {args args' : List FV} {F F' : FAW} (U : CU) (g : FuncId) (h : args = args') (hF : F = F') (f : KU) : uCall U g args F f = uCall U g args' F' f := by subst h; subst hF; rfl
@[congr] theorem lz_uCpy {d d' s s' : FV} {F F' : FAW} (size : Nat) (hd : d = d') (hs : s = s') (hF : F = F') (f : KU) : uCpy size d s F f = uCpy size d' s' F' f := by subst hd; subst hs; subst hF; rfl
@[congr] theorem lz_uMdel {x x' k k' : FV} {F F' : FAW} (ks : KS) (hx : x = x') (hk : k = k') (hF : F = F') (f : KU) : uMdel ks x k F f = uMdel ks x' k' F' f := by subst hx; subst hk; subst hF; rfl
@[congr] theorem lz_uAppzF {s s' x x' : FV} {F F' : FAW} (elem size bytes : Nat) (zero : List FV) (hs : s = s') (hx : x = x') (hF : F = F') (f : KU) : uAppzF elem size bytes zero s x F f = uAppzF elem size bytes zero s' x' F' f := by subst hs; subst hx; subst hF; rfl
end Go.Proofs.Ytgejdfhfgphcbaa.Ev
