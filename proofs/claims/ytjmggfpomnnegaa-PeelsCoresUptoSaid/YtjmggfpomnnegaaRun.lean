/-
  run: joined.
-/
import Derived.Test.YtjmggfpomnnegaaRunB
import Derived.Test.YtjmggfpomnnegaaRunC
import Derived.Test.YtjmggfpomnnegaaRunD
import Derived.Test.YtjmggfpomnnegaaRunE
namespace Go.Proofs.Ytjmggfpomnnegaa
open Go.RowKit

theorem run_any (pr : Prg) (I : Value) (n : Nat) (hpr : PrgOk pr I n) (pb eb eo cap : Nat) (a : Option Addr) (es : List Ed) (flip : Int) (limit : Nat) (w : World)
    (hp : w.cell? ⟨pb, 0, none⟩ = some I) (hE : IsEds w a eb eo es) (hlen : es.length ≤ 1048576) (hn : n ≤ 65536) (hlim : limit ≤ 4294967296) (hs : ∀ e ∈ es, e.src < n ∧ e.dst < n) :
    Calls Try.prog 29 #[.pointer (some ⟨pb, 0, none⟩), .int .u32 n, .slice a es.length cap, .int .i64 flip, .int .i64 limit] w fun e w' =>
      ∃ (sb : Nat) (ss : List St) (rr : Nat) (dn : Bool) (fl : Nat → Bool), e = .returned (.tuple #[.slice (some ⟨sb, 0, none⟩) n n, .int .i64 rr, .bool dn, .int .i64 0]) ∧ w'.ownsRow w.heap.size 25 8 (.slice (some ⟨sb, 0, none⟩) n n) n (stCells ss) ∧ ss.length = n ∧
        Below w.heap.size w w' ∧ RunEnds pr n es fl limit ss rr dn :=
  run_split.go ⟨run_part1⟩ ⟨run_part2⟩ ⟨run_part3⟩ ⟨run_part4⟩ pr I n hpr pb eb eo cap a es flip limit w hp hE hlen hn hlim hs

end Go.Proofs.Ytjmggfpomnnegaa
