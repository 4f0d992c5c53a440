/-
  Walks. Written by program out of specs of mine.
-/
import Derived.Test.YtdiaeafjjffjmaaQ5
set_option linter.unusedSimpArgs false
set_option linter.unusedVariables false
set_option maxRecDepth 100000
namespace Go.Proofs.Ytdiaeafjjffjmaa
open Go Go.Vc Go.RowKit Go.Proofs

theorem stack_walk' (w0 : World) (v : Value) (os : List FrD) (hol : os.length ≤ maxLen) (hS : Sl w0 7 v os.length (os.flatMap frV)) (ht : ∀ o ∈ os, In w0 o.2 o.1.tab) (gone : Int) (_ : -9223372036854775808 ≤ gone ∧ gone ≤ 9223372036854775807) (o2 : FrD) (hO : In w0 o2.2 o2.1.tab) (mv : Value) (ms : List Int) (hml : ms.length ≤ 9223372036854775807) (hM : In w0 mv ms) :
    Ca Try.prog 5 #[v, .int .i64 gone, .agg (frV o2).toArray, mv] w0 (fun r w' => r = .bool true ∧ Ext w0 w') :=
  stack_walk w0 v _ _ (Fs.open hS ht) gone o2.1 o2.2 hO mv ms hml hM

end Go.Proofs.Ytdiaeafjjffjmaa
