import Derived.Test.YtjlmofhokbnloaaDoorMa
import Derived.Test.YtjlmofhokbnloaaDoorSeFrzAll
namespace Go.Proofs.YtjlmofhokbnloaaDoor
open Go.Se
set_option maxRecDepth 100000
theorem stake_nf (b : Bk) (all : Int) (p : List (List Int)) (K : KC) : runU 8 c6 3 31 [.ptr 0 0, .ro p.length 1 (strsG p)] [some (.cells bkT (bkC all b))] K =
  (Br (true && decide (0 < (↑p.length : Int))) (∃ (e399 : Bk), ∃ (e398 : Int), ([SV.ro b.q.length 2 (qG b.q), SV.int .i64 all, SV.int .i64 b.last, SV.int .i64 b.err, SV.int .i64 b.place] = [SV.ro e399.q.length 2 (qG e399.q), SV.int .i64 e398, SV.int .i64 e399.last, SV.int .i64 e399.err, SV.int .i64 e399.place]) ∧ (Br (true && decide (1 < (↑p.length : Int))) (∃ (e395 : Bk), ∃ (e394 : Int), ([SV.ro (intBk e399 (listOf (bytesOf (p.getD (Int.toNat 0) []))) 1 16777216).q.length 2 (qG (intBk e399 (listOf (bytesOf (p.getD (Int.toNat 0) []))) 1 16777216).q), SV.int .i64 e398, SV.int .i64 (intBk e399 (listOf (bytesOf (p.getD (Int.toNat 0) []))) 1 16777216).last, SV.int .i64 (intBk e399 (listOf (bytesOf (p.getD (Int.toNat 0) []))) 1 16777216).err, SV.int .i64 (intBk e399 (listOf (bytesOf (p.getD (Int.toNat 0) []))) 1 16777216).place] = [SV.ro e395.q.length 2 (qG e395.q), SV.int .i64 e394, SV.int .i64 e395.last, SV.int .i64 e395.err, SV.int .i64 e395.place]) ∧ (Br (true && decide (2 < (↑p.length : Int))) (∃ (e391 : Bk), ∃ (e390 : Int), ([SV.ro (intBk e395 (listOf (bytesOf (p.getD (IntKind.i64.wrap (0 + 1)).toNat []))) 0 255).q.length 2 (qG (intBk e395 (listOf (bytesOf (p.getD (IntKind.i64.wrap (0 + 1)).toNat []))) 0 255).q), SV.int .i64 e394, SV.int .i64 (intBk e395 (listOf (bytesOf (p.getD (IntKind.i64.wrap (0 + 1)).toNat []))) 0 255).last, SV.int .i64 (intBk e395 (listOf (bytesOf (p.getD (IntKind.i64.wrap (0 + 1)).toNat []))) 0 255).err, SV.int .i64 (intBk e395 (listOf (bytesOf (p.getD (IntKind.i64.wrap (0 + 1)).toNat []))) 0 255).place] = [SV.ro e391.q.length 2 (qG e391.q), SV.int .i64 e390, SV.int .i64 e391.last, SV.int .i64 e391.err, SV.int .i64 e391.place]) ∧ (Br (true && decide (3 < (↑p.length : Int))) (∃ (e387 : Bk), ∃ (e386 : Int), ([SV.ro (intBk e391 (listOf (bytesOf (p.getD (IntKind.i64.wrap (IntKind.i64.wrap (0 + 1) + 1)).toNat []))) 0 255).q.length 2 (qG (intBk e391 (listOf (bytesOf (p.getD (IntKind.i64.wrap (IntKind.i64.wrap (0 + 1) + 1)).toNat []))) 0 255).q), SV.int .i64 e390, SV.int .i64 (intBk e391 (listOf (bytesOf (p.getD (IntKind.i64.wrap (IntKind.i64.wrap (0 + 1) + 1)).toNat []))) 0 255).last, SV.int .i64 (intBk e391 (listOf (bytesOf (p.getD (IntKind.i64.wrap (IntKind.i64.wrap (0 + 1) + 1)).toNat []))) 0 255).err, SV.int .i64 (intBk e391 (listOf (bytesOf (p.getD (IntKind.i64.wrap (IntKind.i64.wrap (0 + 1) + 1)).toNat []))) 0 255).place] = [SV.ro e387.q.length 2 (qG e387.q), SV.int .i64 e386, SV.int .i64 e387.last, SV.int .i64 e387.err, SV.int .i64 e387.place]) ∧ (Br (true && decide (4 < (↑p.length : Int))) (∃ (e383 : Bk), ∃ (e382 : Int), ([SV.ro (intBk e387 (listOf (bytesOf (p.getD (IntKind.i64.wrap (IntKind.i64.wrap (IntKind.i64.wrap (0 + 1) + 1) + 1)).toNat []))) 0 255).q.length 2 (qG (intBk e387 (listOf (bytesOf (p.getD (IntKind.i64.wrap (IntKind.i64.wrap (IntKind.i64.wrap (0 + 1) + 1) + 1)).toNat []))) 0 255).q), SV.int .i64 e386, SV.int .i64 (intBk e387 (listOf (bytesOf (p.getD (IntKind.i64.wrap (IntKind.i64.wrap (IntKind.i64.wrap (0 + 1) + 1) + 1)).toNat []))) 0 255).last, SV.int .i64 (intBk e387 (listOf (bytesOf (p.getD (IntKind.i64.wrap (IntKind.i64.wrap (IntKind.i64.wrap (0 + 1) + 1) + 1)).toNat []))) 0 255).err, SV.int .i64 (intBk e387 (listOf (bytesOf (p.getD (IntKind.i64.wrap (IntKind.i64.wrap (IntKind.i64.wrap (0 + 1) + 1) + 1)).toNat []))) 0 255).place] = [SV.ro e383.q.length 2 (qG e383.q), SV.int .i64 e382, SV.int .i64 e383.last, SV.int .i64 e383.err, SV.int .i64 e383.place]) ∧ (Br (true && decide (5 < (↑p.length : Int))) (∃ (e379 : Bk), ∃ (e378 : Int), ([SV.ro (intBk e383 (listOf (bytesOf (p.getD (IntKind.i64.wrap (IntKind.i64.wrap (IntKind.i64.wrap (IntKind.i64.wrap (0 + 1) + 1) + 1) + 1)).toNat []))) (-127) 127).q.length 2 (qG (intBk e383 (listOf (bytesOf (p.getD (IntKind.i64.wrap (IntKind.i64.wrap (IntKind.i64.wrap (IntKind.i64.wrap (0 + 1) + 1) + 1) + 1)).toNat []))) (-127) 127).q), SV.int .i64 e382, SV.int .i64 (intBk e383 (listOf (bytesOf (p.getD (IntKind.i64.wrap (IntKind.i64.wrap (IntKind.i64.wrap (IntKind.i64.wrap (0 + 1) + 1) + 1) + 1)).toNat []))) (-127) 127).last, SV.int .i64 (intBk e383 (listOf (bytesOf (p.getD (IntKind.i64.wrap (IntKind.i64.wrap (IntKind.i64.wrap (IntKind.i64.wrap (0 + 1) + 1) + 1) + 1)).toNat []))) (-127) 127).err, SV.int .i64 (intBk e383 (listOf (bytesOf (p.getD (IntKind.i64.wrap (IntKind.i64.wrap (IntKind.i64.wrap (IntKind.i64.wrap (0 + 1) + 1) + 1) + 1)).toNat []))) (-127) 127).place] = [SV.ro e379.q.length 2 (qG e379.q), SV.int .i64 e378, SV.int .i64 e379.last, SV.int .i64 e379.err, SV.int .i64 e379.place]) ∧ (Br (true && (decide (6 ≤ (↑p.length : Int)) && decide ((↑p.length : Int) ≤ (↑p.length : Int)))) (Br ((↑((↑p.length : Int).toNat - 6) : Int) == 2) (Br (true && decide (0 < (↑((↑p.length : Int).toNat - 6) : Int))) (∃ (e373 : Bk), ∃ (e372 : Int), ([SV.ro (intBk e379 (listOf (bytesOf (p.getD (IntKind.i64.wrap (IntKind.i64.wrap (IntKind.i64.wrap (IntKind.i64.wrap (IntKind.i64.wrap (0 + 1) + 1) + 1) + 1) + 1)).toNat []))) (-1) 8).q.length 2 (qG (intBk e379 (listOf (bytesOf (p.getD (IntKind.i64.wrap (IntKind.i64.wrap (IntKind.i64.wrap (IntKind.i64.wrap (IntKind.i64.wrap (0 + 1) + 1) + 1) + 1) + 1)).toNat []))) (-1) 8).q), SV.int .i64 e378, SV.int .i64 (intBk e379 (listOf (bytesOf (p.getD (IntKind.i64.wrap (IntKind.i64.wrap (IntKind.i64.wrap (IntKind.i64.wrap (IntKind.i64.wrap (0 + 1) + 1) + 1) + 1) + 1)).toNat []))) (-1) 8).last, SV.int .i64 (intBk e379 (listOf (bytesOf (p.getD (IntKind.i64.wrap (IntKind.i64.wrap (IntKind.i64.wrap (IntKind.i64.wrap (IntKind.i64.wrap (0 + 1) + 1) + 1) + 1) + 1)).toNat []))) (-1) 8).err, SV.int .i64 (intBk e379 (listOf (bytesOf (p.getD (IntKind.i64.wrap (IntKind.i64.wrap (IntKind.i64.wrap (IntKind.i64.wrap (IntKind.i64.wrap (0 + 1) + 1) + 1) + 1) + 1)).toNat []))) (-1) 8).place] = [SV.ro e373.q.length 2 (qG e373.q), SV.int .i64 e372, SV.int .i64 e373.last, SV.int .i64 e373.err, SV.int .i64 e373.place]) ∧ (Br (true && decide (0 < (↑((↑p.length : Int).toNat - 6) : Int))) (∃ (e369 : Bk), ∃ (e368 : Int), ([SV.ro (oneBk e373 (bytesOf (p.getD (Int.toNat 0 + Int.toNat 6) [])) [(⟨#[97, 117, 116, 111]⟩ : ByteArray), (⟨#[114, 101, 115, 101, 116]⟩ : ByteArray)]).q.length 2 (qG (oneBk e373 (bytesOf (p.getD (Int.toNat 0 + Int.toNat 6) [])) [(⟨#[97, 117, 116, 111]⟩ : ByteArray), (⟨#[114, 101, 115, 101, 116]⟩ : ByteArray)]).q), SV.int .i64 e372, SV.int .i64 (oneBk e373 (bytesOf (p.getD (Int.toNat 0 + Int.toNat 6) [])) [(⟨#[97, 117, 116, 111]⟩ : ByteArray), (⟨#[114, 101, 115, 101, 116]⟩ : ByteArray)]).last, SV.int .i64 (oneBk e373 (bytesOf (p.getD (Int.toNat 0 + Int.toNat 6) [])) [(⟨#[97, 117, 116, 111]⟩ : ByteArray), (⟨#[114, 101, 115, 101, 116]⟩ : ByteArray)]).err, SV.int .i64 (oneBk e373 (bytesOf (p.getD (Int.toNat 0 + Int.toNat 6) [])) [(⟨#[97, 117, 116, 111]⟩ : ByteArray), (⟨#[114, 101, 115, 101, 116]⟩ : ByteArray)]).place] = [SV.ro e369.q.length 2 (qG e369.q), SV.int .i64 e368, SV.int .i64 e369.last, SV.int .i64 e369.err, SV.int .i64 e369.place]) ∧ (Br (true && decide (1 < (↑((↑p.length : Int).toNat - 6) : Int))) (∃ (e365 : Bk), ∃ (e364 : Int), ([SV.ro (oneBk e369 (bytesOf (p.getD (Int.toNat 0 + Int.toNat 6) [])) [(⟨#[97, 117, 116, 111]⟩ : ByteArray)]).q.length 2 (qG (oneBk e369 (bytesOf (p.getD (Int.toNat 0 + Int.toNat 6) [])) [(⟨#[97, 117, 116, 111]⟩ : ByteArray)]).q), SV.int .i64 e368, SV.int .i64 (oneBk e369 (bytesOf (p.getD (Int.toNat 0 + Int.toNat 6) [])) [(⟨#[97, 117, 116, 111]⟩ : ByteArray)]).last, SV.int .i64 (oneBk e369 (bytesOf (p.getD (Int.toNat 0 + Int.toNat 6) [])) [(⟨#[97, 117, 116, 111]⟩ : ByteArray)]).err, SV.int .i64 (oneBk e369 (bytesOf (p.getD (Int.toNat 0 + Int.toNat 6) [])) [(⟨#[97, 117, 116, 111]⟩ : ByteArray)]).place] = [SV.ro e365.q.length 2 (qG e365.q), SV.int .i64 e364, SV.int .i64 e365.last, SV.int .i64 e365.err, SV.int .i64 e365.place]) ∧ (K (SV.tup [SV.int .i64 (intV e399 (listOf (bytesOf (p.getD (Int.toNat 0) []))) 1 16777216), SV.agg [SV.int .i64 (intV e395 (listOf (bytesOf (p.getD (IntKind.i64.wrap (0 + 1)).toNat []))) 0 255), SV.int .i64 (intV e391 (listOf (bytesOf (p.getD (IntKind.i64.wrap (IntKind.i64.wrap (0 + 1) + 1)).toNat []))) 0 255), SV.int .i64 (intV e387 (listOf (bytesOf (p.getD (IntKind.i64.wrap (IntKind.i64.wrap (IntKind.i64.wrap (0 + 1) + 1) + 1)).toNat []))) 0 255), SV.int .i64 (intV e383 (listOf (bytesOf (p.getD (IntKind.i64.wrap (IntKind.i64.wrap (IntKind.i64.wrap (IntKind.i64.wrap (0 + 1) + 1) + 1) + 1)).toNat []))) (-127) 127), SV.int .i64 (intV e379 (listOf (bytesOf (p.getD (IntKind.i64.wrap (IntKind.i64.wrap (IntKind.i64.wrap (IntKind.i64.wrap (IntKind.i64.wrap (0 + 1) + 1) + 1) + 1) + 1)).toNat []))) (-1) 8), SV.bool true, SV.bool true]]) [some (SB.cells 105 [SV.ro (oneBk e365 (bytesOf (p.getD (Int.toNat 1 + Int.toNat 6) [])) [(⟨#[114, 101, 115, 101, 116]⟩ : ByteArray)]).q.length 2 (qG (oneBk e365 (bytesOf (p.getD (Int.toNat 1 + Int.toNat 6) [])) [(⟨#[114, 101, 115, 101, 116]⟩ : ByteArray)]).q), SV.int .i64 e364, SV.int .i64 (oneBk e365 (bytesOf (p.getD (Int.toNat 1 + Int.toNat 6) [])) [(⟨#[114, 101, 115, 101, 116]⟩ : ByteArray)]).last, SV.int .i64 (oneBk e365 (bytesOf (p.getD (Int.toNat 1 + Int.toNat 6) [])) [(⟨#[114, 101, 115, 101, 116]⟩ : ByteArray)]).err, SV.int .i64 (oneBk e365 (bytesOf (p.getD (Int.toNat 1 + Int.toNat 6) [])) [(⟨#[114, 101, 115, 101, 116]⟩ : ByteArray)]).place])] [0])) (False))) (False))) (False)) (Br ((↑((↑p.length : Int).toNat - 6) : Int) == 1) (Br (true && decide (0 < (↑((↑p.length : Int).toNat - 6) : Int))) (∃ (e372 : Bk), ∃ (e371 : Int), ([SV.ro (intBk e379 (listOf (bytesOf (p.getD (IntKind.i64.wrap (IntKind.i64.wrap (IntKind.i64.wrap (IntKind.i64.wrap (IntKind.i64.wrap (0 + 1) + 1) + 1) + 1) + 1)).toNat []))) (-1) 8).q.length 2 (qG (intBk e379 (listOf (bytesOf (p.getD (IntKind.i64.wrap (IntKind.i64.wrap (IntKind.i64.wrap (IntKind.i64.wrap (IntKind.i64.wrap (0 + 1) + 1) + 1) + 1) + 1)).toNat []))) (-1) 8).q), SV.int .i64 e378, SV.int .i64 (intBk e379 (listOf (bytesOf (p.getD (IntKind.i64.wrap (IntKind.i64.wrap (IntKind.i64.wrap (IntKind.i64.wrap (IntKind.i64.wrap (0 + 1) + 1) + 1) + 1) + 1)).toNat []))) (-1) 8).last, SV.int .i64 (intBk e379 (listOf (bytesOf (p.getD (IntKind.i64.wrap (IntKind.i64.wrap (IntKind.i64.wrap (IntKind.i64.wrap (IntKind.i64.wrap (0 + 1) + 1) + 1) + 1) + 1)).toNat []))) (-1) 8).err, SV.int .i64 (intBk e379 (listOf (bytesOf (p.getD (IntKind.i64.wrap (IntKind.i64.wrap (IntKind.i64.wrap (IntKind.i64.wrap (IntKind.i64.wrap (0 + 1) + 1) + 1) + 1) + 1)).toNat []))) (-1) 8).place] = [SV.ro e372.q.length 2 (qG e372.q), SV.int .i64 e371, SV.int .i64 e372.last, SV.int .i64 e372.err, SV.int .i64 e372.place]) ∧ (K (SV.tup [SV.int .i64 (intV e399 (listOf (bytesOf (p.getD (Int.toNat 0) []))) 1 16777216), SV.agg [SV.int .i64 (intV e395 (listOf (bytesOf (p.getD (IntKind.i64.wrap (0 + 1)).toNat []))) 0 255), SV.int .i64 (intV e391 (listOf (bytesOf (p.getD (IntKind.i64.wrap (IntKind.i64.wrap (0 + 1) + 1)).toNat []))) 0 255), SV.int .i64 (intV e387 (listOf (bytesOf (p.getD (IntKind.i64.wrap (IntKind.i64.wrap (IntKind.i64.wrap (0 + 1) + 1) + 1)).toNat []))) 0 255), SV.int .i64 (intV e383 (listOf (bytesOf (p.getD (IntKind.i64.wrap (IntKind.i64.wrap (IntKind.i64.wrap (IntKind.i64.wrap (0 + 1) + 1) + 1) + 1)).toNat []))) (-127) 127), SV.int .i64 (intV e379 (listOf (bytesOf (p.getD (IntKind.i64.wrap (IntKind.i64.wrap (IntKind.i64.wrap (IntKind.i64.wrap (IntKind.i64.wrap (0 + 1) + 1) + 1) + 1) + 1)).toNat []))) (-1) 8), SV.bool !oneV e372 (bytesOf (p.getD (Int.toNat 0 + Int.toNat 6) [])) [(⟨#[97, 117, 116, 111]⟩ : ByteArray), (⟨#[114, 101, 115, 101, 116]⟩ : ByteArray)] == 1, SV.bool (oneV e372 (bytesOf (p.getD (Int.toNat 0 + Int.toNat 6) [])) [(⟨#[97, 117, 116, 111]⟩ : ByteArray), (⟨#[114, 101, 115, 101, 116]⟩ : ByteArray)] == 1)]]) [some (SB.cells 105 [SV.ro (oneBk e372 (bytesOf (p.getD (Int.toNat 0 + Int.toNat 6) [])) [(⟨#[97, 117, 116, 111]⟩ : ByteArray), (⟨#[114, 101, 115, 101, 116]⟩ : ByteArray)]).q.length 2 (qG (oneBk e372 (bytesOf (p.getD (Int.toNat 0 + Int.toNat 6) [])) [(⟨#[97, 117, 116, 111]⟩ : ByteArray), (⟨#[114, 101, 115, 101, 116]⟩ : ByteArray)]).q), SV.int .i64 e371, SV.int .i64 (oneBk e372 (bytesOf (p.getD (Int.toNat 0 + Int.toNat 6) [])) [(⟨#[97, 117, 116, 111]⟩ : ByteArray), (⟨#[114, 101, 115, 101, 116]⟩ : ByteArray)]).last, SV.int .i64 (oneBk e372 (bytesOf (p.getD (Int.toNat 0 + Int.toNat 6) [])) [(⟨#[97, 117, 116, 111]⟩ : ByteArray), (⟨#[114, 101, 115, 101, 116]⟩ : ByteArray)]).err, SV.int .i64 (oneBk e372 (bytesOf (p.getD (Int.toNat 0 + Int.toNat 6) [])) [(⟨#[97, 117, 116, 111]⟩ : ByteArray), (⟨#[114, 101, 115, 101, 116]⟩ : ByteArray)]).place])] [0])) (False)) (K (SV.tup [SV.int .i64 (intV e399 (listOf (bytesOf (p.getD (Int.toNat 0) []))) 1 16777216), SV.agg [SV.int .i64 (intV e395 (listOf (bytesOf (p.getD (IntKind.i64.wrap (0 + 1)).toNat []))) 0 255), SV.int .i64 (intV e391 (listOf (bytesOf (p.getD (IntKind.i64.wrap (IntKind.i64.wrap (0 + 1) + 1)).toNat []))) 0 255), SV.int .i64 (intV e387 (listOf (bytesOf (p.getD (IntKind.i64.wrap (IntKind.i64.wrap (IntKind.i64.wrap (0 + 1) + 1) + 1)).toNat []))) 0 255), SV.int .i64 (intV e383 (listOf (bytesOf (p.getD (IntKind.i64.wrap (IntKind.i64.wrap (IntKind.i64.wrap (IntKind.i64.wrap (0 + 1) + 1) + 1) + 1)).toNat []))) (-127) 127), SV.int .i64 (intV e379 (listOf (bytesOf (p.getD (IntKind.i64.wrap (IntKind.i64.wrap (IntKind.i64.wrap (IntKind.i64.wrap (IntKind.i64.wrap (0 + 1) + 1) + 1) + 1) + 1)).toNat []))) (-1) 8), SV.bool false, SV.bool false]]) [some (SB.cells 105 [SV.ro (intBk e379 (listOf (bytesOf (p.getD (IntKind.i64.wrap (IntKind.i64.wrap (IntKind.i64.wrap (IntKind.i64.wrap (IntKind.i64.wrap (0 + 1) + 1) + 1) + 1) + 1)).toNat []))) (-1) 8).q.length 2 (qG (intBk e379 (listOf (bytesOf (p.getD (IntKind.i64.wrap (IntKind.i64.wrap (IntKind.i64.wrap (IntKind.i64.wrap (IntKind.i64.wrap (0 + 1) + 1) + 1) + 1) + 1)).toNat []))) (-1) 8).q), SV.int .i64 e378, SV.int .i64 (intBk e379 (listOf (bytesOf (p.getD (IntKind.i64.wrap (IntKind.i64.wrap (IntKind.i64.wrap (IntKind.i64.wrap (IntKind.i64.wrap (0 + 1) + 1) + 1) + 1) + 1)).toNat []))) (-1) 8).last, SV.int .i64 (intBk e379 (listOf (bytesOf (p.getD (IntKind.i64.wrap (IntKind.i64.wrap (IntKind.i64.wrap (IntKind.i64.wrap (IntKind.i64.wrap (0 + 1) + 1) + 1) + 1) + 1)).toNat []))) (-1) 8).err, SV.int .i64 (intBk e379 (listOf (bytesOf (p.getD (IntKind.i64.wrap (IntKind.i64.wrap (IntKind.i64.wrap (IntKind.i64.wrap (IntKind.i64.wrap (0 + 1) + 1) + 1) + 1) + 1)).toNat []))) (-1) 8).place])] [0]))) (False))) (False))) (False))) (False))) (False))) (False))) (False)) := by kernel_rfl
theorem stake6 {b : Bk} {all : Int} {p : List (List Int)} {K : KC} (h : p.length = 6) (hK : K (.tup [.int .i64 (tkN b p), .agg (ctC (tkC b p p.length))]) [some (.cells bkT (bkC all (tkB b p p.length)))] [0]) :
    runU 8 c6 3 31 [.ptr 0 0, .ro p.length 1 (strsG p)] [some (.cells bkT (bkC all b))] K := by
  rw [h] at hK
  rw [stake_nf, h]
  refine Br.of (fun _ => ⟨b, all, rfl, ?_⟩) fun f => absurd f (by decide)
  refine Br.of (fun _ => ⟨tk1 b p, all, rfl, ?_⟩) fun f => absurd f (by decide)
  refine Br.of (fun _ => ⟨tk2 b p, all, rfl, ?_⟩) fun f => absurd f (by decide)
  refine Br.of (fun _ => ⟨tk3 b p, all, rfl, ?_⟩) fun f => absurd f (by decide)
  refine Br.of (fun _ => ⟨tk4 b p, all, rfl, ?_⟩) fun f => absurd f (by decide)
  refine Br.of (fun _ => ⟨tk5 b p, all, rfl, ?_⟩) fun f => absurd f (by decide)
  refine Br.of (fun _ => ?_) fun f => absurd f (by decide)
  exact Br.of (fun f => absurd f (by decide)) fun _ => Br.of (fun f => absurd f (by decide)) fun _ => hK
theorem stake7 {b : Bk} {all : Int} {p : List (List Int)} {K : KC} (h : p.length = 7) (hK : K (.tup [.int .i64 (tkN b p), .agg (ctC (tkC b p p.length))]) [some (.cells bkT (bkC all (tkB b p p.length)))] [0]) :
    runU 8 c6 3 31 [.ptr 0 0, .ro p.length 1 (strsG p)] [some (.cells bkT (bkC all b))] K := by
  rw [h] at hK
  rw [stake_nf, h]
  refine Br.of (fun _ => ⟨b, all, rfl, ?_⟩) fun f => absurd f (by decide)
  refine Br.of (fun _ => ⟨tk1 b p, all, rfl, ?_⟩) fun f => absurd f (by decide)
  refine Br.of (fun _ => ⟨tk2 b p, all, rfl, ?_⟩) fun f => absurd f (by decide)
  refine Br.of (fun _ => ⟨tk3 b p, all, rfl, ?_⟩) fun f => absurd f (by decide)
  refine Br.of (fun _ => ⟨tk4 b p, all, rfl, ?_⟩) fun f => absurd f (by decide)
  refine Br.of (fun _ => ⟨tk5 b p, all, rfl, ?_⟩) fun f => absurd f (by decide)
  refine Br.of (fun _ => ?_) fun f => absurd f (by decide)
  refine Br.of (fun f => absurd f (by decide)) fun _ => Br.of (fun _ => Br.of (fun _ => ⟨tk6 b p, all, rfl, ?_⟩) fun f => absurd f (by decide)) fun f => absurd f (by decide)
  exact hK
theorem stake8 {b : Bk} {all : Int} {p : List (List Int)} {K : KC} (h : p.length = 8) (hK : K (.tup [.int .i64 (tkN b p), .agg (ctC (tkC b p p.length))]) [some (.cells bkT (bkC all (tkB b p p.length)))] [0]) :
    runU 8 c6 3 31 [.ptr 0 0, .ro p.length 1 (strsG p)] [some (.cells bkT (bkC all b))] K := by
  rw [h] at hK
  rw [stake_nf, h]
  refine Br.of (fun _ => ⟨b, all, rfl, ?_⟩) fun f => absurd f (by decide)
  refine Br.of (fun _ => ⟨tk1 b p, all, rfl, ?_⟩) fun f => absurd f (by decide)
  refine Br.of (fun _ => ⟨tk2 b p, all, rfl, ?_⟩) fun f => absurd f (by decide)
  refine Br.of (fun _ => ⟨tk3 b p, all, rfl, ?_⟩) fun f => absurd f (by decide)
  refine Br.of (fun _ => ⟨tk4 b p, all, rfl, ?_⟩) fun f => absurd f (by decide)
  refine Br.of (fun _ => ⟨tk5 b p, all, rfl, ?_⟩) fun f => absurd f (by decide)
  refine Br.of (fun _ => ?_) fun f => absurd f (by decide)
  refine Br.of (fun _ => Br.of (fun _ => ⟨tk6 b p, all, rfl, ?_⟩) fun f => absurd f (by decide)) fun f => absurd f (by decide)
  refine Br.of (fun _ => ⟨tkB7 b p, all, rfl, ?_⟩) fun f => absurd f (by decide)
  exact Br.of (fun _ => ⟨oneBk (tkB7 b p) (pw p 6) [autoW], all, rfl, hK⟩) fun f => absurd f (by decide)
theorem stake6_ok (b : Bk) (all : Int) (p : List (List Int)) (h : p.length = 6) : CallOK Tryd.prog 31 [.ptr 0 0, .ro p.length 1 (strsG p)] [some (.cells bkT (bkC all b))] (.tup [.int .i64 (tkN b p), .agg (ctC (tkC b p p.length))]) [some (.cells bkT (bkC all (tkB b p p.length)))] [0] :=
  runU_ok 8 c6 3 fun _ _ _ hK => stake6 h hK
theorem stake7_ok (b : Bk) (all : Int) (p : List (List Int)) (h : p.length = 7) : CallOK Tryd.prog 31 [.ptr 0 0, .ro p.length 1 (strsG p)] [some (.cells bkT (bkC all b))] (.tup [.int .i64 (tkN b p), .agg (ctC (tkC b p p.length))]) [some (.cells bkT (bkC all (tkB b p p.length)))] [0] :=
  runU_ok 8 c6 3 fun _ _ _ hK => stake7 h hK
theorem stake8_ok (b : Bk) (all : Int) (p : List (List Int)) (h : p.length = 8) : CallOK Tryd.prog 31 [.ptr 0 0, .ro p.length 1 (strsG p)] [some (.cells bkT (bkC all b))] (.tup [.int .i64 (tkN b p), .agg (ctC (tkC b p p.length))]) [some (.cells bkT (bkC all (tkB b p p.length)))] [0] :=
  runU_ok 8 c6 3 fun _ _ _ hK => stake8 h hK
theorem stake_ok (b : Bk) (all : Int) (p : List (List Int)) (h1 : 6 ≤ p.length) (h2 : p.length ≤ 8) : CallOK Tryd.prog 31 [.ptr 0 0, .ro p.length 1 (strsG p)] [some (.cells bkT (bkC all b))] (.tup [.int .i64 (tkN b p), .agg (ctC (tkC b p p.length))]) [some (.cells bkT (bkC all (tkB b p p.length)))] [0] := by
  have : p.length = 6 ∨ p.length = 7 ∨ p.length = 8 := by omega
  rcases this with h | h | h
  · exact stake6_ok b all p h
  · exact stake7_ok b all p h
  · exact stake8_ok b all p h
def cStk : List SV → List (Option SB) → KC → Prop
  | [.ptr 0 0, .ro n 1 g], [some (.cells 105 cs)], K => ∃ (b : Bk) (all : Int) (p : List (List Int)), ((n = p.length ∧ g = strsG p) ∧ cs = bkC all b ∧ 6 ≤ n ∧ n ≤ 8) ∧ K (.tup [.int .i64 (tkN b p), .agg (ctC (tkC b p n))]) [some (.cells 105 (bkC all (tkB b p n)))] [0]
  | _, _, _ => False
theorem stk_sat (xs : List SV) (σ : List (Option SB)) : Sat Tryd.prog 31 xs σ (cStk xs σ) := by
  intro K hK
  unfold cStk at hK
  split at hK
  case h_2 => exact hK.elim
  obtain ⟨b, all, p, ⟨⟨rfl, rfl⟩, rfl, h1, h2⟩, hK⟩ := hK
  exact ⟨_, _, _, hK, stake_ok b all p h1 h2⟩
noncomputable def c7 : Know Tryd.prog := (c6).add 31 cStk stk_sat
end Go.Proofs.YtjlmofhokbnloaaDoor

namespace Go.Proofs.YtjlmofhokbnloaaDoor
open Go.Se
set_option maxRecDepth 100000
def repR : List (Nat × Keep) := [(0, ⟨[4, 7, 8], [0, 1], [0, 1], 2, []⟩)]
noncomputable abbrev repE : Env := envL repR (fun _ => 0) c7 3
noncomputable abbrev repF : Func := Tryd.f34
abbrev repP : List Nat := [1, 1, 1, 1, 1, 1, 0, 0]
def repS (x : Ct) (C : Nat) (g : Nat → List SV) (n : Int) : St := ⟨[(4, .nils), (7, .own 1 0 7 C), (8, .int .i64 n)], [(0, some (.cells ctT (ctC x))), (1, some (.row ctT 7 C g))], 2, [0, 1], 48⟩
theorem rep_entry (x : Ct) (c : Int) (K : KC) : runL repR (fun _ => 0) c7 4 34 [.arr 0 0 1 1, .int .i64 c] [some (.cells ctT (ctC x))] K =
  (Br (decide (c < 0)) (False) (Br (decide (1 * IntKind.u64.wrap c / 18446744073709551616 > 0)) (False) (Br (decide (1 * IntKind.u64.wrap c % 18446744073709551616 > 9223372036854775807)) (False) (Br (decide (0 ≤ IntKind.i64.wrap (1 * IntKind.u64.wrap c % 18446744073709551616)) && (decide (IntKind.i64.wrap (1 * IntKind.u64.wrap c % 18446744073709551616) ≤ IntKind.i64.wrap (1 * IntKind.u64.wrap c % 18446744073709551616)) && (decide (IntKind.i64.wrap (1 * IntKind.u64.wrap c % 18446744073709551616) * 48 ≤ 1099511627776) && decide (IntKind.i64.wrap (1 * IntKind.u64.wrap c % 18446744073709551616) < 9223372036854775808)))) ((∀ (i : Nat), i < 1 → ((fun (i : Nat) => cut (ctC x) (i * 7) 7) i).length = 7 ∧ ((fun (i : Nat) => cut (ctC x) (i * 7) 7) i).all oneCell = true) ∧ (Br (decide (7 ≤ (ctC x).length) && decide (0 + (IntKind.i64.wrap (1 * IntKind.u64.wrap c % 18446744073709551616)).toNat ≤ (IntKind.i64.wrap (1 * IntKind.u64.wrap c % 18446744073709551616)).toNat)) (∃ q_, loopE repE (keepW repR 1) repF repP 0 1 K q_ { tmps := [(4, SV.nils), (7, SV.own 1 0 7 (IntKind.i64.wrap (1 * IntKind.u64.wrap c % 18446744073709551616)).toNat), (8, SV.int .i64 (↑(Nat.min 1 (IntKind.i64.wrap (1 * IntKind.u64.wrap c % 18446744073709551616)).toNat) : Int))], store := [(0, some (SB.cells 35 (ctC x))), (1, some (SB.row 35 7 (IntKind.i64.wrap (1 * IntKind.u64.wrap c % 18446744073709551616)).toNat (Se.overR 0 (Nat.min 1 (IntKind.i64.wrap (1 * IntKind.u64.wrap c % 18446744073709551616)).toNat) (fun (i : Nat) => cut (ctC x) (i * 7) 7) fun (x : Nat) => [SV.int .i64 0, SV.int .i64 0, SV.int .i64 0, SV.int .i64 0, SV.int .i64 0, SV.bool false, SV.bool false])))], nxt := 2, dirty := [0, 1], nt := 48 }) (False))) (False))))) := by kernel_rfl
theorem rep_round (x : Ct) (C : Nat) (g : Nat → List SV) (n : Nat) (K : Ex → St → Prop) : roundE repE (keepW repR 1) repF repP 0 K (repS x C g n) =
  (Br (decide ((↑n : Int) < (↑C : Int))) (Br (decide (0 ≤ (↑n : Int)) && (decide ((↑n : Int) ≤ (↑C : Int)) && decide ((↑C : Int) ≤ (↑C : Int))) && decide (C < 9223372036854775808)) (Br (decide ((↑n : Int) < (↑C : Int))) (Br (true && (decide (0 ≤ (↑n : Int)) && decide ((↑n : Int) ≤ (↑C : Int))) && decide (C < 9223372036854775808)) (Br (decide (0 < (↑n : Int))) ((∀ (i : Nat), i < (↑n : Int).toNat - (↑0 : Int).toNat → ((fun (i : Nat) => g (i + (0 + (↑0 : Int).toNat))) i).length = 7 ∧ ((fun (i : Nat) => g (i + (0 + (↑0 : Int).toNat))) i).all oneCell = true) ∧ (Br (decide (0 + ((↑n : Int).toNat - 0) ≤ C) && decide (0 + (↑n : Int).toNat + ((↑C : Int).toNat - (↑n : Int).toNat) ≤ C)) (K Ex.normal { tmps := [(4, SV.nils), (7, SV.own 1 0 7 C), (8, SV.int .i64 (IntKind.i64.wrap ((↑n : Int) + (↑(((↑n : Int).toNat - 0).min ((↑C : Int).toNat - (↑n : Int).toNat)) : Int))))], store := [(0, some (SB.cells 35 (ctC x))), (1, some (SB.row 35 7 C (Se.overR (0 + (↑n : Int).toNat) (((↑n : Int).toNat - 0).min ((↑C : Int).toNat - (↑n : Int).toNat)) (fun (i : Nat) => g (i + (0 + (↑0 : Int).toNat))) g)))], nxt := 2, dirty := [0, 1], nt := 48 }) (False))) (False)) (False)) (Br (true && (decide (0 ≤ (↑n : Int)) && decide ((↑n : Int) ≤ (↑C : Int))) && decide (C < 9223372036854775808)) (Br (decide (0 < (↑n : Int))) (False) (False)) (False))) (False)) (K (Ex.exit 0) { tmps := [(4, SV.nils), (7, SV.own 1 0 7 C), (8, SV.int .i64 (↑n : Int))], store := [(0, some (SB.cells 35 (ctC x))), (1, some (SB.row 35 7 C g))], nxt := 2, dirty := [0, 1], nt := 48 })) := by kernel_rfl
theorem rep_after (x : Ct) (C : Nat) (g : Nat → List SV) (n : Nat) (K : KC) : afterE repE (keepW repR 1) repF repP 1 K (.exit 0) (repS x C g n) =
  (K (SV.own 1 0 7 C) [some (SB.cells 35 (ctC x)), some (SB.row 35 7 C g)] [0]) := by kernel_rfl
theorem rep_law (x : Ct) (C : Nat) (h1 : 1 ≤ C) (h2 : C ≤ 16777216) (K : KC) (hK : K (.own 1 0 7 C) [some (.cells ctT (ctC x)), some (.row ctT 7 C (rpG x C))] [0]) :
    runL repR (fun _ => 0) c7 4 34 [.arr 0 0 1 1, .int .i64 C] [some (.cells ctT (ctC x))] K := by
  rw [rep_entry]
  have w : IntKind.u64.wrap (C : Int) = C := by rw [wu64]; omega
  have e1 : (1 * (C : Int)) / 18446744073709551616 = 0 := by omega
  have e2 : (1 * (C : Int)) % 18446744073709551616 = C := by omega
  have e3 : IntKind.i64.wrap (C : Int) = C := by rw [wi64]; omega
  have e4 : Nat.min 1 C = 1 := Nat.min_eq_left h1
  rw [w, e1, e2, e3, Int.toNat_natCast, e4, rpG_first]
  refine Br.of (fun f => absurd (of_decide_eq_true f) (by omega)) fun _ => Br.of (fun f => absurd f (by decide)) fun _ => Br.of (fun f => absurd (of_decide_eq_true f) (by omega)) fun _ => Br.of (fun _ => ⟨fun i hi => ?_, Br.of (fun _ => ?_) fun f => absurd f (by simp [ctC])⟩) fun f => absurd f (by simp; omega)
  · obtain rfl : i = 0 := by omega
    exact ⟨rfl, rfl⟩
  refine ⟨C + 1, loop_m (fun n : Nat => repS x C (rpG x n) n) (fun n => C - n) (fun n => 1 ≤ n ∧ n ≤ C) ?_ (C + 1) 1 ⟨Nat.le_refl _, h1⟩ (by omega)⟩
  rintro n ⟨a1, a2⟩ Y hY
  rw [rep_round]
  refine Br.of (fun c => ?_) fun c => ?_
  · have c := of_decide_eq_true c
    have e5 : (((n : Int).toNat - 0).min ((C : Int).toNat - (n : Int).toNat)) = min n (C - n) := rfl
    have hm : min n (C - n) ≤ n := Nat.min_le_left _ _
    have hm2 : min n (C - n) ≤ C - n := Nat.min_le_right _ _
    have hm3 : 1 ≤ min n (C - n) := by omega
    rw [e5]
    generalize min n (C - n) = k at *
    refine Br.of (fun _ => Br.of (fun _ => Br.of (fun _ => Br.of (fun _ => ⟨fun i hi => ?_, Br.of (fun _ => ?_) fun f => absurd f (by simp; omega)⟩) fun f => absurd (of_decide_eq_false f) (by omega)) fun f => absurd f (by simp; omega)) fun f => absurd (of_decide_eq_false f) (by omega)) fun f => absurd f (by simp; omega)
    · have hi : i < n := hi
      show (rpG x n (i + (0 + 0))).length = 7 ∧ (rpG x n (i + (0 + 0))).all oneCell = true
      rw [rpG_lt (show i + (0 + 0) < n by omega)]
      exact ⟨rfl, rfl⟩
    · rw [show IntKind.i64.wrap ((n : Int) + (k : Int)) = ((n + k : Nat) : Int) by rw [wi64]; omega]
      have := hY (n + k) ⟨by omega, by omega⟩ (by omega)
      rw [← rpG_more x n k hm] at this
      exact this
  · obtain rfl : n = C := by have := of_decide_eq_false c; omega
    show afterE repE (keepW repR 1) repF repP 1 K (.exit 0) (repS x n (rpG x n) n)
    rw [rep_after]; exact hK
theorem rep_ok (x : Ct) (C : Nat) (h1 : 1 ≤ C) (h2 : C ≤ 16777216) : CallOK Tryd.prog 34 [.arr 0 0 1 1, .int .i64 C] [some (.cells ctT (ctC x))] (.own 1 0 7 C) [some (.cells ctT (ctC x)), some (.row ctT 7 C (rpG x C))] [0] :=
  runL_ok repR (fun _ => 0) c7 4 one_lt fun _ _ K hK => rep_law x C h1 h2 K (hK _ fun _ h => h)
def cRep : List SV → List (Option SB) → KC → Prop
  | [.arr 0 0 1 1, .int .i64 c], [some (.cells 35 [.int .i64 t, .int .i64 b, .int .i64 d, .int .i64 s, .int .i64 g, .bool a, .bool r])], K => (1 ≤ c ∧ c ≤ 16777216) ∧ K (.own 1 0 7 c.toNat) [some (.cells 35 [.int .i64 t, .int .i64 b, .int .i64 d, .int .i64 s, .int .i64 g, .bool a, .bool r]), some (.row 35 7 c.toNat (rpG ⟨t, b, d, s, g, a, r⟩ c.toNat))] [0]
  | _, _, _ => False
theorem rep_sat (xs : List SV) (σ : List (Option SB)) : Sat Tryd.prog 34 xs σ (cRep xs σ) := by
  intro K hK
  unfold cRep at hK
  split at hK
  case h_2 => exact hK.elim
  rename_i c t b d s g a r
  obtain ⟨⟨h1, h2⟩, hK⟩ := hK
  have := rep_ok ⟨t, b, d, s, g, a, r⟩ c.toNat (by omega) (by omega)
  rw [Int.toNat_of_nonneg (show 0 ≤ c by omega)] at this
  exact ⟨_, _, _, hK, this⟩
noncomputable def c8 : Know Tryd.prog := (c7).add 34 cRep rep_sat
end Go.Proofs.YtjlmofhokbnloaaDoor

namespace Go.Proofs.YtjlmofhokbnloaaDoor
open Go.Se
set_option maxRecDepth 100000
def paR : List (Nat × Keep × List ((Nat × List Nat) × Nat)) := [(0, ⟨[2, 3, 4, 5, 6], [0, 1], [0, 1, 2, 3, 4, 5, 6, 7, 8, 9, 10, 11, 12], 2, []⟩, [((6, []), 1)])]
noncomputable abbrev paE : Env := envP paR (fun _ => 0) c8 3
noncomputable abbrev paF : Func := Tryd.f10
abbrev paP : List Nat := [1, 1, 1, 1, 0, 0]
def paS (all : Int) (b : Bk) (o : SV) (r : Option SB) : St := ⟨[(2, .nils), (3, .int .i64 0), (4, .int .i64 0), (5, .ptr 0 0), (6, o)], [(0, some (.cells bkT (bkC all b))), (1, r)], 2, [0, 1, 2, 3, 4, 5, 6, 7, 8, 9, 10, 11, 12], 57⟩
theorem pa_entry (s : ByteArray) (K : KC) : runP paR (fun _ => 0) c8 4 10 [.str s] [] K =
  (Br (decide (s.size ≤ 1048576)) (∃ (e399 : Bk), ∃ (e398 : Int), ([SV.ro (openB (listOf s)).q.length 2 (qG (openB (listOf s)).q), SV.int .i64 (allB (listOf s)), SV.int .i64 (openB (listOf s)).last, SV.int .i64 (openB (listOf s)).err, SV.int .i64 (openB (listOf s)).place] = [SV.ro e399.q.length 2 (qG e399.q), SV.int .i64 e398, SV.int .i64 e399.last, SV.int .i64 e399.err, SV.int .i64 e399.place] ∧ okBk e399 ∧ 0 ≤ e398 ∧ e398 ≤ 1048577) ∧ (Br (takeN e399 (⟨#[115, 99, 114, 105, 112, 116]⟩ : ByteArray) 0 0) (∃ q_, loopE paE (keepP paR 0) paF paP 0 0 K q_ { tmps := [(2, SV.nils), (3, SV.int .i64 0), (4, SV.int .i64 0), (5, SV.ptr 0 0), (6, SV.nils)], store := [(0, some (SB.cells 105 [SV.ro (takeB e398 e399 (⟨#[115, 99, 114, 105, 112, 116]⟩ : ByteArray) 0 0).q.length 2 (qG (takeB e398 e399 (⟨#[115, 99, 114, 105, 112, 116]⟩ : ByteArray) 0 0).q), SV.int .i64 e398, SV.int .i64 (takeB e398 e399 (⟨#[115, 99, 114, 105, 112, 116]⟩ : ByteArray) 0 0).last, SV.int .i64 (takeB e398 e399 (⟨#[115, 99, 114, 105, 112, 116]⟩ : ByteArray) 0 0).err, SV.int .i64 (takeB e398 e399 (⟨#[115, 99, 114, 105, 112, 116]⟩ : ByteArray) 0 0).place])), (1, none)], nxt := 2, dirty := [0, 1, 2, 3, 4, 5, 6, 7, 8, 9, 10, 11, 12], nt := 57 }) (∃ q_, loopE paE (keepP paR 0) paF paP 0 0 K q_ { tmps := [(2, SV.nils), (3, SV.int .i64 0), (4, SV.int .i64 0), (5, SV.ptr 0 0), (6, SV.nils)], store := [(0, some (SB.cells 105 [SV.ro (takeB e398 e399 (⟨#[115, 99, 114, 105, 112, 116]⟩ : ByteArray) 0 0).q.length 2 (qG (takeB e398 e399 (⟨#[115, 99, 114, 105, 112, 116]⟩ : ByteArray) 0 0).q), SV.int .i64 e398, SV.int .i64 (takeB e398 e399 (⟨#[115, 99, 114, 105, 112, 116]⟩ : ByteArray) 0 0).last, SV.int .i64 (takeB e398 e399 (⟨#[115, 99, 114, 105, 112, 116]⟩ : ByteArray) 0 0).err, SV.int .i64 (takeB e398 e399 (⟨#[115, 99, 114, 105, 112, 116]⟩ : ByteArray) 0 0).place])), (1, none)], nxt := 2, dirty := [0, 1, 2, 3, 4, 5, 6, 7, 8, 9, 10, 11, 12], nt := 57 }))) (False)) := by kernel_rfl
theorem pa_after0 (all : Int) (b : Bk) (K : KC) : afterE paE (keepP paR 0) paF paP 0 K (.exit 0) (paS all b .nils none) =
  (∃ (e400 : Bk), ∃ (e399 : Int), ([SV.ro b.q.length 2 (qG b.q), SV.int .i64 all, SV.int .i64 b.last, SV.int .i64 b.err, SV.int .i64 b.place] = [SV.ro e400.q.length 2 (qG e400.q), SV.int .i64 e399, SV.int .i64 e400.last, SV.int .i64 e400.err, SV.int .i64 e400.place] ∧ okBk e400 ∧ 0 ≤ e399 ∧ e399 ≤ 1048577) ∧ (Br (takeN e400 (⟨#[101, 110, 100]⟩ : ByteArray) 0 0) (∃ (e396 : Bk), ∃ (e395 : Int), ([SV.ro (takeB e399 e400 (⟨#[101, 110, 100]⟩ : ByteArray) 0 0).q.length 2 (qG (takeB e399 e400 (⟨#[101, 110, 100]⟩ : ByteArray) 0 0).q), SV.int .i64 e399, SV.int .i64 (takeB e399 e400 (⟨#[101, 110, 100]⟩ : ByteArray) 0 0).last, SV.int .i64 (takeB e399 e400 (⟨#[101, 110, 100]⟩ : ByteArray) 0 0).err, SV.int .i64 (takeB e399 e400 (⟨#[101, 110, 100]⟩ : ByteArray) 0 0).place] = [SV.ro e396.q.length 2 (qG e396.q), SV.int .i64 e395, SV.int .i64 e396.last, SV.int .i64 e396.err, SV.int .i64 e396.place]) ∧ (Br (endE e396 != 0) (K (SV.tup [SV.nils, SV.int .i64 (endE e396), SV.int .i64 (endAt e396)]) [] []) (K (SV.tup [SV.nils, SV.int .i64 0, SV.int .i64 0]) [] []))) (∃ (e396 : Bk), ∃ (e395 : Int), ([SV.ro (takeB e399 e400 (⟨#[101, 110, 100]⟩ : ByteArray) 0 0).q.length 2 (qG (takeB e399 e400 (⟨#[101, 110, 100]⟩ : ByteArray) 0 0).q), SV.int .i64 e399, SV.int .i64 (takeB e399 e400 (⟨#[101, 110, 100]⟩ : ByteArray) 0 0).last, SV.int .i64 (takeB e399 e400 (⟨#[101, 110, 100]⟩ : ByteArray) 0 0).err, SV.int .i64 (takeB e399 e400 (⟨#[101, 110, 100]⟩ : ByteArray) 0 0).place] = [SV.ro e396.q.length 2 (qG e396.q), SV.int .i64 e395, SV.int .i64 e396.last, SV.int .i64 e396.err, SV.int .i64 e396.place]) ∧ (Br (endE e396 != 0) (K (SV.tup [SV.nils, SV.int .i64 (endE e396), SV.int .i64 (endAt e396)]) [] []) (K (SV.tup [SV.nils, SV.int .i64 0, SV.int .i64 0]) [] []))))) := by kernel_rfl
theorem pa_after1 (all : Int) (b : Bk) (m : Nat) (g : Nat → List SV) (K : KC) : afterE paE (keepP paR 0) paF paP 0 K (.exit 0) (paS all b (.own 1 0 7 m) (some (.row ctT 7 m g))) =
  (∃ (e400 : Bk), ∃ (e399 : Int), ([SV.ro b.q.length 2 (qG b.q), SV.int .i64 all, SV.int .i64 b.last, SV.int .i64 b.err, SV.int .i64 b.place] = [SV.ro e400.q.length 2 (qG e400.q), SV.int .i64 e399, SV.int .i64 e400.last, SV.int .i64 e400.err, SV.int .i64 e400.place] ∧ okBk e400 ∧ 0 ≤ e399 ∧ e399 ≤ 1048577) ∧ (Br (takeN e400 (⟨#[101, 110, 100]⟩ : ByteArray) 0 0) (∃ (e396 : Bk), ∃ (e395 : Int), ([SV.ro (takeB e399 e400 (⟨#[101, 110, 100]⟩ : ByteArray) 0 0).q.length 2 (qG (takeB e399 e400 (⟨#[101, 110, 100]⟩ : ByteArray) 0 0).q), SV.int .i64 e399, SV.int .i64 (takeB e399 e400 (⟨#[101, 110, 100]⟩ : ByteArray) 0 0).last, SV.int .i64 (takeB e399 e400 (⟨#[101, 110, 100]⟩ : ByteArray) 0 0).err, SV.int .i64 (takeB e399 e400 (⟨#[101, 110, 100]⟩ : ByteArray) 0 0).place] = [SV.ro e396.q.length 2 (qG e396.q), SV.int .i64 e395, SV.int .i64 e396.last, SV.int .i64 e396.err, SV.int .i64 e396.place]) ∧ (Br (endE e396 != 0) (K (SV.tup [SV.nils, SV.int .i64 (endE e396), SV.int .i64 (endAt e396)]) [] []) (K (SV.tup [SV.own 0 0 7 m, SV.int .i64 0, SV.int .i64 0]) [some (SB.row 35 7 m g)] []))) (∃ (e396 : Bk), ∃ (e395 : Int), ([SV.ro (takeB e399 e400 (⟨#[101, 110, 100]⟩ : ByteArray) 0 0).q.length 2 (qG (takeB e399 e400 (⟨#[101, 110, 100]⟩ : ByteArray) 0 0).q), SV.int .i64 e399, SV.int .i64 (takeB e399 e400 (⟨#[101, 110, 100]⟩ : ByteArray) 0 0).last, SV.int .i64 (takeB e399 e400 (⟨#[101, 110, 100]⟩ : ByteArray) 0 0).err, SV.int .i64 (takeB e399 e400 (⟨#[101, 110, 100]⟩ : ByteArray) 0 0).place] = [SV.ro e396.q.length 2 (qG e396.q), SV.int .i64 e395, SV.int .i64 e396.last, SV.int .i64 e396.err, SV.int .i64 e396.place]) ∧ (Br (endE e396 != 0) (K (SV.tup [SV.nils, SV.int .i64 (endE e396), SV.int .i64 (endAt e396)]) [] []) (K (SV.tup [SV.own 0 0 7 m, SV.int .i64 0, SV.int .i64 0]) [some (SB.row 35 7 m g)] []))))) := by kernel_rfl
theorem pa_round0 (all : Int) (b : Bk) (K : Ex → St → Prop) : roundE paE (keepP paR 0) paF paP 0 K (paS all b .nils none) =
  (∃ (e400 : Bk), ∃ (e399 : Int), ([SV.ro b.q.length 2 (qG b.q), SV.int .i64 all, SV.int .i64 b.last, SV.int .i64 b.err, SV.int .i64 b.place] = [SV.ro e400.q.length 2 (qG e400.q), SV.int .i64 e399, SV.int .i64 e400.last, SV.int .i64 e400.err, SV.int .i64 e400.place] ∧ okBk e400) ∧ (Br (nextV e400 (⟨#[100, 111]⟩ : ByteArray)) (∃ (e396 : Bk), ∃ (e395 : Int), ([SV.ro e400.q.length 2 (qG e400.q), SV.int .i64 e399, SV.int .i64 e400.last, SV.int .i64 e400.err, SV.int .i64 e400.place] = [SV.ro e396.q.length 2 (qG e396.q), SV.int .i64 e395, SV.int .i64 e396.last, SV.int .i64 e396.err, SV.int .i64 e396.place] ∧ okBk e396 ∧ 0 ≤ e395 ∧ e395 ≤ 1048577) ∧ (Br (takeN e396 (⟨#[100, 111]⟩ : ByteArray) 6 8) (K (Ex.exit 0) { tmps := [(2, SV.nils), (3, SV.int .i64 0), (4, SV.int .i64 0), (5, SV.ptr 0 0), (6, SV.nils)], store := [(0, some (SB.cells 105 [SV.ro (takeB e395 e396 (⟨#[100, 111]⟩ : ByteArray) 6 8).q.length 2 (qG (takeB e395 e396 (⟨#[100, 111]⟩ : ByteArray) 6 8).q), SV.int .i64 e395, SV.int .i64 (takeB e395 e396 (⟨#[100, 111]⟩ : ByteArray) 6 8).last, SV.int .i64 (takeB e395 e396 (⟨#[100, 111]⟩ : ByteArray) 6 8).err, SV.int .i64 (takeB e395 e396 (⟨#[100, 111]⟩ : ByteArray) 6 8).place])), (1, none)], nxt := 2, dirty := [0, 1, 2, 3, 4, 5, 6, 7, 8, 9, 10, 11, 12], nt := 57 }) (Br (decide (0 < (takeL e396).length)) (∃ (e391 : Bk), ∃ (e390 : Int), ∃ (e389 : List (List Int)), (((takeL e396).length = e389.length ∧ strsG (takeL e396) = strsG e389) ∧ [SV.ro (takeB e395 e396 (⟨#[100, 111]⟩ : ByteArray) 6 8).q.length 2 (qG (takeB e395 e396 (⟨#[100, 111]⟩ : ByteArray) 6 8).q), SV.int .i64 e395, SV.int .i64 (takeB e395 e396 (⟨#[100, 111]⟩ : ByteArray) 6 8).last, SV.int .i64 (takeB e395 e396 (⟨#[100, 111]⟩ : ByteArray) 6 8).err, SV.int .i64 (takeB e395 e396 (⟨#[100, 111]⟩ : ByteArray) 6 8).place] = [SV.ro e391.q.length 2 (qG e391.q), SV.int .i64 e390, SV.int .i64 e391.last, SV.int .i64 e391.err, SV.int .i64 e391.place] ∧ 6 ≤ (takeL e396).length ∧ (takeL e396).length ≤ 8) ∧ (Br (decide (tkN e391 e389 > 16777216)) (∃ (e386 : Bk), ∃ (e385 : Int), ([SV.ro (tkB e391 e389 (takeL e396).length).q.length 2 (qG (tkB e391 e389 (takeL e396).length).q), SV.int .i64 e390, SV.int .i64 (tkB e391 e389 (takeL e396).length).last, SV.int .i64 (tkB e391 e389 (takeL e396).length).err, SV.int .i64 (tkB e391 e389 (takeL e396).length).place] = [SV.ro e386.q.length 2 (qG e386.q), SV.int .i64 e385, SV.int .i64 e386.last, SV.int .i64 e386.err, SV.int .i64 e386.place]) ∧ (K Ex.normal { tmps := [(2, SV.nils), (3, SV.int .i64 0), (4, SV.int .i64 0), (5, SV.ptr 0 0), (6, SV.nils)], store := [(0, some (SB.cells 105 [SV.ro (shapeBk e386).q.length 2 (qG (shapeBk e386).q), SV.int .i64 e385, SV.int .i64 (shapeBk e386).last, SV.int .i64 (shapeBk e386).err, SV.int .i64 (shapeBk e386).place])), (1, none)], nxt := 2, dirty := [0, 1, 2, 3, 4, 5, 6, 7, 8, 9, 10, 11, 12], nt := 57 })) (Br ((tkB e391 e389 (takeL e396).length).err == 0) ((1 ≤ tkN e391 e389 ∧ tkN e391 e389 ≤ 16777216) ∧ ((∀ (i : Nat), i < (tkN e391 e389).toNat → (rpG ((tkC e391 e389 (takeL e396).length)) (tkN e391 e389).toNat i).length = 7 ∧ (rpG ((tkC e391 e389 (takeL e396).length)) (tkN e391 e389).toNat i).all oneCell = true) ∧ (Br (decide ((tkN e391 e389).toNat ≤ (tkN e391 e389).toNat) && (decide ((tkN e391 e389).toNat * 48 ≤ 1099511627776) && decide ((tkN e391 e389).toNat < 9223372036854775808))) (Br (decide (0 < (tkN e391 e389).toNat)) (K Ex.normal { tmps := [(2, SV.nils), (3, SV.int .i64 0), (4, SV.int .i64 0), (5, SV.ptr 0 0), (6, SV.own 1 0 7 (tkN e391 e389).toNat)], store := [(0, some (SB.cells 105 [SV.ro (tkB e391 e389 (takeL e396).length).q.length 2 (qG (tkB e391 e389 (takeL e396).length).q), SV.int .i64 e390, SV.int .i64 (tkB e391 e389 (takeL e396).length).last, SV.int .i64 (tkB e391 e389 (takeL e396).length).err, SV.int .i64 (tkB e391 e389 (takeL e396).length).place])), (1, some (SB.row 35 7 (tkN e391 e389).toNat (rpG ((tkC e391 e389 (takeL e396).length)) (tkN e391 e389).toNat)))], nxt := 2, dirty := [0, 1, 2, 3, 4, 5, 6, 7, 8, 9, 10, 11, 12], nt := 57 }) (K Ex.normal { tmps := [(2, SV.nils), (3, SV.int .i64 0), (4, SV.int .i64 0), (5, SV.ptr 0 0), (6, SV.nils)], store := [(0, some (SB.cells 105 [SV.ro (tkB e391 e389 (takeL e396).length).q.length 2 (qG (tkB e391 e389 (takeL e396).length).q), SV.int .i64 e390, SV.int .i64 (tkB e391 e389 (takeL e396).length).last, SV.int .i64 (tkB e391 e389 (takeL e396).length).err, SV.int .i64 (tkB e391 e389 (takeL e396).length).place])), (1, none)], nxt := 2, dirty := [0, 1, 2, 3, 4, 5, 6, 7, 8, 9, 10, 11, 12], nt := 57 })) (False)))) (K Ex.normal { tmps := [(2, SV.nils), (3, SV.int .i64 0), (4, SV.int .i64 0), (5, SV.ptr 0 0), (6, SV.nils)], store := [(0, some (SB.cells 105 [SV.ro (tkB e391 e389 (takeL e396).length).q.length 2 (qG (tkB e391 e389 (takeL e396).length).q), SV.int .i64 e390, SV.int .i64 (tkB e391 e389 (takeL e396).length).last, SV.int .i64 (tkB e391 e389 (takeL e396).length).err, SV.int .i64 (tkB e391 e389 (takeL e396).length).place])), (1, none)], nxt := 2, dirty := [0, 1, 2, 3, 4, 5, 6, 7, 8, 9, 10, 11, 12], nt := 57 })))) (False)))) (K (Ex.exit 0) { tmps := [(2, SV.nils), (3, SV.int .i64 0), (4, SV.int .i64 0), (5, SV.ptr 0 0), (6, SV.nils)], store := [(0, some (SB.cells 105 [SV.ro e400.q.length 2 (qG e400.q), SV.int .i64 e399, SV.int .i64 e400.last, SV.int .i64 e400.err, SV.int .i64 e400.place])), (1, none)], nxt := 2, dirty := [0, 1, 2, 3, 4, 5, 6, 7, 8, 9, 10, 11, 12], nt := 57 }))) := by kernel_rfl
theorem pa_round1 (all : Int) (b : Bk) (m : Nat) (g : Nat → List SV) (K : Ex → St → Prop) : roundE paE (keepP paR 0) paF paP 0 K (paS all b (.own 1 0 7 m) (some (.row ctT 7 m g))) =
  (∃ (e400 : Bk), ∃ (e399 : Int), ([SV.ro b.q.length 2 (qG b.q), SV.int .i64 all, SV.int .i64 b.last, SV.int .i64 b.err, SV.int .i64 b.place] = [SV.ro e400.q.length 2 (qG e400.q), SV.int .i64 e399, SV.int .i64 e400.last, SV.int .i64 e400.err, SV.int .i64 e400.place] ∧ okBk e400) ∧ (Br (nextV e400 (⟨#[100, 111]⟩ : ByteArray)) (∃ (e396 : Bk), ∃ (e395 : Int), ([SV.ro e400.q.length 2 (qG e400.q), SV.int .i64 e399, SV.int .i64 e400.last, SV.int .i64 e400.err, SV.int .i64 e400.place] = [SV.ro e396.q.length 2 (qG e396.q), SV.int .i64 e395, SV.int .i64 e396.last, SV.int .i64 e396.err, SV.int .i64 e396.place] ∧ okBk e396 ∧ 0 ≤ e395 ∧ e395 ≤ 1048577) ∧ (Br (takeN e396 (⟨#[100, 111]⟩ : ByteArray) 6 8) (K (Ex.exit 0) { tmps := [(2, SV.nils), (3, SV.int .i64 0), (4, SV.int .i64 0), (5, SV.ptr 0 0), (6, SV.own 1 0 7 m)], store := [(0, some (SB.cells 105 [SV.ro (takeB e395 e396 (⟨#[100, 111]⟩ : ByteArray) 6 8).q.length 2 (qG (takeB e395 e396 (⟨#[100, 111]⟩ : ByteArray) 6 8).q), SV.int .i64 e395, SV.int .i64 (takeB e395 e396 (⟨#[100, 111]⟩ : ByteArray) 6 8).last, SV.int .i64 (takeB e395 e396 (⟨#[100, 111]⟩ : ByteArray) 6 8).err, SV.int .i64 (takeB e395 e396 (⟨#[100, 111]⟩ : ByteArray) 6 8).place])), (1, some (SB.row 35 7 m g))], nxt := 2, dirty := [0, 1, 2, 3, 4, 5, 6, 7, 8, 9, 10, 11, 12], nt := 57 }) (Br (decide (0 < (takeL e396).length)) (∃ (e391 : Bk), ∃ (e390 : Int), ∃ (e389 : List (List Int)), (((takeL e396).length = e389.length ∧ strsG (takeL e396) = strsG e389) ∧ [SV.ro (takeB e395 e396 (⟨#[100, 111]⟩ : ByteArray) 6 8).q.length 2 (qG (takeB e395 e396 (⟨#[100, 111]⟩ : ByteArray) 6 8).q), SV.int .i64 e395, SV.int .i64 (takeB e395 e396 (⟨#[100, 111]⟩ : ByteArray) 6 8).last, SV.int .i64 (takeB e395 e396 (⟨#[100, 111]⟩ : ByteArray) 6 8).err, SV.int .i64 (takeB e395 e396 (⟨#[100, 111]⟩ : ByteArray) 6 8).place] = [SV.ro e391.q.length 2 (qG e391.q), SV.int .i64 e390, SV.int .i64 e391.last, SV.int .i64 e391.err, SV.int .i64 e391.place] ∧ 6 ≤ (takeL e396).length ∧ (takeL e396).length ≤ 8) ∧ (Br (decide (tkN e391 e389 > IntKind.i64.wrap (16777216 - (↑m : Int)))) (∃ (e386 : Bk), ∃ (e385 : Int), ([SV.ro (tkB e391 e389 (takeL e396).length).q.length 2 (qG (tkB e391 e389 (takeL e396).length).q), SV.int .i64 e390, SV.int .i64 (tkB e391 e389 (takeL e396).length).last, SV.int .i64 (tkB e391 e389 (takeL e396).length).err, SV.int .i64 (tkB e391 e389 (takeL e396).length).place] = [SV.ro e386.q.length 2 (qG e386.q), SV.int .i64 e385, SV.int .i64 e386.last, SV.int .i64 e386.err, SV.int .i64 e386.place]) ∧ (K Ex.normal { tmps := [(2, SV.nils), (3, SV.int .i64 0), (4, SV.int .i64 0), (5, SV.ptr 0 0), (6, SV.own 1 0 7 m)], store := [(0, some (SB.cells 105 [SV.ro (shapeBk e386).q.length 2 (qG (shapeBk e386).q), SV.int .i64 e385, SV.int .i64 (shapeBk e386).last, SV.int .i64 (shapeBk e386).err, SV.int .i64 (shapeBk e386).place])), (1, some (SB.row 35 7 m g))], nxt := 2, dirty := [0, 1, 2, 3, 4, 5, 6, 7, 8, 9, 10, 11, 12], nt := 57 })) (Br ((tkB e391 e389 (takeL e396).length).err == 0) ((1 ≤ tkN e391 e389 ∧ tkN e391 e389 ≤ 16777216) ∧ ((∀ (i : Nat), i < (tkN e391 e389).toNat → (rpG ((tkC e391 e389 (takeL e396).length)) (tkN e391 e389).toNat i).length = 7 ∧ (rpG ((tkC e391 e389 (takeL e396).length)) (tkN e391 e389).toNat i).all oneCell = true) ∧ (Br (decide ((tkN e391 e389).toNat ≤ (tkN e391 e389).toNat) && decide (m = m) && (decide ((m + (tkN e391 e389).toNat) * 48 ≤ 1099511627776) && decide (m + (tkN e391 e389).toNat < 9223372036854775808))) (K Ex.normal { tmps := [(2, SV.nils), (3, SV.int .i64 0), (4, SV.int .i64 0), (5, SV.ptr 0 0), (6, SV.own 1 0 7 (m + (tkN e391 e389).toNat))], store := [(0, some (SB.cells 105 [SV.ro (tkB e391 e389 (takeL e396).length).q.length 2 (qG (tkB e391 e389 (takeL e396).length).q), SV.int .i64 e390, SV.int .i64 (tkB e391 e389 (takeL e396).length).last, SV.int .i64 (tkB e391 e389 (takeL e396).length).err, SV.int .i64 (tkB e391 e389 (takeL e396).length).place])), (1, some (SB.row 35 7 (m + (tkN e391 e389).toNat) (catR m g (rpG ((tkC e391 e389 (takeL e396).length)) (tkN e391 e389).toNat))))], nxt := 2, dirty := [0, 1, 2, 3, 4, 5, 6, 7, 8, 9, 10, 11, 12], nt := 57 }) (False)))) (K Ex.normal { tmps := [(2, SV.nils), (3, SV.int .i64 0), (4, SV.int .i64 0), (5, SV.ptr 0 0), (6, SV.own 1 0 7 m)], store := [(0, some (SB.cells 105 [SV.ro (tkB e391 e389 (takeL e396).length).q.length 2 (qG (tkB e391 e389 (takeL e396).length).q), SV.int .i64 e390, SV.int .i64 (tkB e391 e389 (takeL e396).length).last, SV.int .i64 (tkB e391 e389 (takeL e396).length).err, SV.int .i64 (tkB e391 e389 (takeL e396).length).place])), (1, some (SB.row 35 7 m g))], nxt := 2, dirty := [0, 1, 2, 3, 4, 5, 6, 7, 8, 9, 10, 11, 12], nt := 57 })))) (False)))) (K (Ex.exit 0) { tmps := [(2, SV.nils), (3, SV.int .i64 0), (4, SV.int .i64 0), (5, SV.ptr 0 0), (6, SV.own 1 0 7 m)], store := [(0, some (SB.cells 105 [SV.ro e400.q.length 2 (qG e400.q), SV.int .i64 e399, SV.int .i64 e400.last, SV.int .i64 e400.err, SV.int .i64 e400.place])), (1, some (SB.row 35 7 m g))], nxt := 2, dirty := [0, 1, 2, 3, 4, 5, 6, 7, 8, 9, 10, 11, 12], nt := 57 }))) := by kernel_rfl
theorem line_len {b : Bk} (h : okBk b) (h1 : nextV b doW = true) (h2 : takeN b doW 6 8 = false) : 6 ≤ (takeL b).length ∧ (takeL b).length ≤ 8 := by
  rcases take_len h2 with h3 | h3
  · omega
  · have hq : b.q ≠ [] := fun e => by
      unfold nextV at h1
      rw [e] at h1
      simp at h1
    have := (h.head hq).1
    rw [h3] at this
    cases this
theorem pa_step (all : Int) (b : Bk) (L : List Ct) (o : SV) (r : Option SB) (h1 : okBk b) (ha : 0 ≤ all ∧ all ≤ 1048577) (ht : tellsL ctT 7 1 ctC L o r) (hL : L.length ≤ 16777216) {KK : Ex → St → Prop} {N : St → Prop}
    (hx : nextV b doW = false → KK (.exit 0) (paS all b o r)) (hy : nextV b doW = true → takeN b doW 6 8 = true → KK (.exit 0) (paS all (lineB all b) o r))
    (hz : nextV b doW = true → takeN b doW 6 8 = false → ∀ o' r', tellsL ctT 7 1 ctC (lnNext all b L).2 o' r' → N (paS all (lnNext all b L).1 o' r')) :
    roundE paE (keepP paR 0) paF paP 0 (nextK N KK) (paS all b o r) := by
  rcases ht with ⟨rfl, rfl, rfl⟩ | ⟨g, hne, rfl, rfl, hg⟩
  · rw [pa_round0]
    refine ⟨b, all, ⟨rfl, h1⟩, Br.of (fun c => ⟨b, all, ⟨rfl, h1, ha⟩, Br.of (fun d => hy c d) fun d => ?_⟩) fun c => hx c⟩
    obtain ⟨l6, l8⟩ := line_len h1 c d
    refine Br.of (fun _ => ?_) fun f => absurd (of_decide_eq_false f) (by omega)
    refine ⟨lineB all b, all, takeL b, ⟨⟨rfl, rfl⟩, rfl, l6, l8⟩, ?_⟩
    have hz := hz c d
    unfold lnNext at hz
    rw [show ((16777216 : Int) - (([] : List Ct).length : Int)) = 16777216 from rfl] at hz
    refine Br.of (fun e => ⟨lnB all b, all, rfl, ?_⟩) fun e => Br.of (fun e2 => ?_) fun e2 => ?_
    · rw [show decide (lnN all b > 16777216) = true from e] at hz
      exact hz _ _ tells_nil
    all_goals rw [show decide (lnN all b > 16777216) = false from e] at hz
    · rw [show ((lnB all b).err == 0) = true from e2] at hz
      obtain ⟨⟨r1, r2⟩, _⟩ := tk_range (b := lineB all b) (p := takeL b) (n := (takeL b).length) (by simpa using e2)
      refine ⟨⟨r1, r2⟩, fun i hi => by rw [rpG_lt hi]; exact ⟨rfl, rfl⟩, ?_⟩
      refine Br.of (fun _ => Br.of (fun _ => ?_) fun f => absurd (of_decide_eq_false f) (by omega)) fun f => absurd f (by simp; omega)
      exact hz _ _ (tells_rep (by show 1 ≤ (tkN (lineB all b) (takeL b)).toNat; omega))
    · rw [show ((lnB all b).err == 0) = false from e2] at hz
      exact hz _ _ tells_nil
  · rw [pa_round1]
    refine ⟨b, all, ⟨rfl, h1⟩, Br.of (fun c => ⟨b, all, ⟨rfl, h1, ha⟩, Br.of (fun d => hy c d) fun d => ?_⟩) fun c => hx c⟩
    obtain ⟨l6, l8⟩ := line_len h1 c d
    refine Br.of (fun _ => ?_) fun f => absurd (of_decide_eq_false f) (by omega)
    refine ⟨lineB all b, all, takeL b, ⟨⟨rfl, rfl⟩, rfl, l6, l8⟩, ?_⟩
    have hz := hz c d
    rw [show IntKind.i64.wrap (16777216 - (L.length : Int)) = 16777216 - (L.length : Int) by rw [wi64]; omega]
    unfold lnNext at hz
    refine Br.of (fun e => ⟨lnB all b, all, rfl, ?_⟩) fun e => Br.of (fun e2 => ?_) fun e2 => ?_
    · rw [show decide (lnN all b > 16777216 - (L.length : Int)) = true from e] at hz
      exact hz _ _ (.inr ⟨g, hne, rfl, rfl, hg⟩)
    all_goals rw [show decide (lnN all b > 16777216 - (L.length : Int)) = false from e] at hz
    · rw [show ((lnB all b).err == 0) = true from e2] at hz
      obtain ⟨⟨r1, r2⟩, _⟩ := tk_range (b := lineB all b) (p := takeL b) (n := (takeL b).length) (by simpa using e2)
      refine ⟨⟨r1, r2⟩, fun i hi => by rw [rpG_lt hi]; exact ⟨rfl, rfl⟩, ?_⟩
      refine Br.of (fun _ => ?_) fun f => absurd f (by simp; omega)
      exact hz _ _ (tells_more hg hne)
    · rw [show ((lnB all b).err == 0) = false from e2] at hz
      exact hz _ _ (.inr ⟨g, hne, rfl, rfl, hg⟩)
theorem pa_law (all : Int) (b0 : Bk) (h0 : okBk b0) (ha : 0 ≤ all ∧ all ≤ 1048577) (K : KC)
    (hK : ∀ b o r, okBk b → b = (paLoop all (b0.q.length + 1) b0 []).1 → tellsL ctT 7 1 ctC (paLoop all (b0.q.length + 1) b0 []).2 o r → afterE paE (keepP paR 0) paF paP 0 K (.exit 0) (paS all b o r)) :
    ∃ q, loopE paE (keepP paR 0) paF paP 0 0 K q (paS all b0 .nils none) := by
  refine ⟨b0.q.length + 1, loop_m (fun a : Bk × List Ct × SV × Option SB => paS all a.1 a.2.2.1 a.2.2.2) (fun a => a.1.q.length)
    (fun a => okBk a.1 ∧ tellsL ctT 7 1 ctC a.2.1 a.2.2.1 a.2.2.2 ∧ a.2.1.length ≤ 16777216 ∧ ∃ f, a.1.q.length < f ∧ paLoop all f a.1 a.2.1 = paLoop all (b0.q.length + 1) b0 []) ?_ (b0.q.length + 1) (b0, [], .nils, none) ⟨h0, tells_nil, Nat.zero_le _, _, Nat.lt_succ_self _, rfl⟩ (Nat.lt_succ_self _)⟩
  rintro ⟨b, L, o, r⟩ ⟨h1, h2, h3, f, h4, h5⟩ Y hY
  simp only at h1 h2 h3 h4 h5 hY ⊢
  obtain ⟨f, rfl⟩ : ∃ f', f = f' + 1 := ⟨f - 1, by omega⟩
  unfold paLoop at h5
  refine pa_step all b L o r h1 ha h2 h3 (fun c => ?_) (fun c d => ?_) fun c d o' r' ht => ?_
  · rw [c] at h5
    have h5 : (b, L) = paLoop all (b0.q.length + 1) b0 [] := h5
    exact hK b o r h1 (by rw [← h5]) (by rw [← h5]; exact h2)
  · rw [c, d] at h5
    have h5 : (lineB all b, L) = paLoop all (b0.q.length + 1) b0 [] := h5
    exact hK (lineB all b) o r h1.take (by rw [← h5]) (by rw [← h5]; exact h2)
  · rw [c, d] at h5
    have hq : (lnNext all b L).1.q = b.q.tail := lnNext_q.trans (line_q d)
    have hne : b.q ≠ [] := fun e => by unfold nextV at c; rw [e] at c; simp at c
    have hl : (lnNext all b L).1.q.length < b.q.length := by
      rw [hq, List.length_tail]
      have := List.length_pos_iff.2 hne
      omega
    exact hY ((lnNext all b L).1, (lnNext all b L).2, o', r') ⟨okBk_q (h1.take (all := all) (w := doW) (lo := 6) (hi := 8)) lnNext_q, ht, lnNext_len h3, f, by show (lnNext all b L).1.q.length < f; omega, h5⟩ hl
end Go.Proofs.YtjlmofhokbnloaaDoor

namespace Go.Proofs.YtjlmofhokbnloaaDoor
open Go.Se
set_option maxRecDepth 100000
def endP (l : List Int) (v : SV) (σ' : List (Option SB)) : Prop :=
  (endE (paEnd l) ≠ 0 ∧ v = .tup [.nils, .int .i64 (endE (paEnd l)), .int .i64 (endAt (paEnd l))] ∧ σ' = []) ∨
  (endE (paEnd l) = 0 ∧ (((paAll l).2 = [] ∧ v = .tup [.nils, .int .i64 0, .int .i64 0] ∧ σ' = []) ∨
    ∃ g, v = .tup [.own 0 0 7 (paAll l).2.length, .int .i64 0, .int .i64 0] ∧ σ' = [some (.row ctT 7 (paAll l).2.length g)] ∧ ∀ j (h : j < (paAll l).2.length), g j = ctC (paAll l).2[j]))
theorem pa_end (s : ByteArray) (hs : s.size ≤ 1048576) (K : KC) (hK : ∀ v σ', endP (listOf s) v σ' → K v σ' []) : runP paR (fun _ => 0) c8 4 10 [.str s] [] K := by
  rw [pa_entry]
  have hL := okLn_lines hs
  have hb := okBk_open hL
  have ha : 0 ≤ allB (listOf s) ∧ allB (listOf s) ≤ 1048577 := ⟨by unfold allB; omega, by have := hL.len; unfold allB; omega⟩
  have key : ∃ q, loopE paE (keepP paR 0) paF paP 0 0 K q (paS (allB (listOf s)) (paBk (listOf s)) .nils none) := by
    refine pa_law _ _ hb.take ha K fun b o r h1 h2 ht => ?_
    subst h2
    rcases ht with ⟨h3, rfl, rfl⟩ | ⟨g, hne, rfl, rfl, hg⟩
    · rw [pa_after0]
      refine ⟨_, allB (listOf s), ⟨rfl, h1, ha⟩, Br.of (fun _ => ⟨paEnd (listOf s), allB (listOf s), rfl, ?_⟩) fun _ => ⟨paEnd (listOf s), allB (listOf s), rfl, ?_⟩⟩
      all_goals exact Br.of (fun e => hK _ _ (.inl ⟨by simpa using e, rfl, rfl⟩)) fun e => hK _ _ (.inr ⟨by simpa using e, .inl ⟨h3, rfl, rfl⟩⟩)
    · rw [pa_after1]
      refine ⟨_, allB (listOf s), ⟨rfl, h1, ha⟩, Br.of (fun _ => ⟨paEnd (listOf s), allB (listOf s), rfl, ?_⟩) fun _ => ⟨paEnd (listOf s), allB (listOf s), rfl, ?_⟩⟩
      all_goals exact Br.of (fun e => hK _ _ (.inl ⟨by simpa using e, rfl, rfl⟩)) fun e => hK _ _ (.inr ⟨by simpa using e, .inr ⟨g, rfl, rfl, hg⟩⟩)
  exact Br.of (fun _ => ⟨openB (listOf s), allB (listOf s), ⟨rfl, hb, ha⟩, Br.of (fun _ => key) fun _ => key⟩) fun f => absurd hs (of_decide_eq_false f)
def ct0 : Ct := ⟨0, 0, 0, 0, 0, false, false⟩
theorem ro_more {ρ : Names} {T : Nat → Prop} {w : World} {n st : Nat} {g g' : Nat → List SV} {x : Value} (hg : ∀ i, i < n → g i = g' i) (h : rel ρ T w (.ro n st g) x) : rel ρ T w (.ro n st g') x := by
  obtain ⟨a, c, h1, h2, h3⟩ := h
  refine ⟨a, c, h1, h2, fun hl => ?_⟩
  obtain ⟨y, h4, h5, h6, h7, h8⟩ := h3 hl
  exact ⟨y, h4, h5, h6, h7, fun i hi => by rw [← hg i hi]; exact h8 i hi⟩
theorem tup_first {ρ : Names} {T : Nat → Prop} {w : World} {a b : SV} {l : List SV} {x : Value} (h : ∀ v, rel ρ T w a v → rel ρ T w b v) (hx : rel ρ T w (.tup (a :: l)) x) : rel ρ T w (.tup (b :: l)) x := by
  obtain ⟨c, h1, v, r, h2, h3, h4⟩ := hx
  exact ⟨c, h1, v, r, h2, h v h3, h4⟩
theorem parse_ok (s : ByteArray) (hs : s.size ≤ 1048576) : CallOK Tryd.prog 10 [.str s] [] (.tup [.ro (parseL (listOf s)).length 7 (listG ctC ct0 (parseL (listOf s))), .int .i64 (parseE (listOf s)), .int .i64 (parseAt (listOf s))]) [] [] := by
  obtain ⟨v, σ', d, ⟨hv, rfl⟩, hc⟩ := calls_sat (env := tab.env c8 (fun _ => 0) (fun _ => false)) ⟨tab.htt, c8.ok⟩ tab.mixed (fun n => keepP_weaker n paR) tab.hft 4 _ _ _ (fun v σ' d => endP (listOf s) v σ' ∧ d = []) (pa_end s hs _ fun v σ' h => ⟨h, rfl⟩)
  unfold parseL parseE parseAt
  rcases hv with ⟨he, rfl, rfl⟩ | ⟨he, ⟨h3, rfl, rfl⟩ | ⟨g, rfl, rfl, hg⟩⟩
  · rw [show (endE (paEnd (listOf s)) != 0) = true by simp [he]]
    exact callOK_val (fun ρ T w x hx => tup_first (fun v h => nils_ro h) hx) hc
  · rw [he, h3]
    exact callOK_val (fun ρ T w x hx => tup_first (fun v h => nils_ro h) hx) hc
  · rw [he]
    have hb : Nat.ble (paAll (listOf s)).2.length (paAll (listOf s)).2.length = true := by simp
    refine callOK_val (fun ρ T w x hx => ?_) (callOK_frzAll 2 hc)
    have hx : rel ρ T w (.tup [bif Nat.ble (paAll (listOf s)).2.length (paAll (listOf s)).2.length then .ro (paAll (listOf s)).2.length 7 g else .junk, .int .i64 0, .int .i64 0]) x := hx
    rw [hb] at hx
    exact tup_first (fun v h => ro_more (fun i hi => by rw [hg i hi, listG_at hi]; rfl) h) hx
def cPa : List SV → List (Option SB) → KC → Prop
  | [.str s], [], K => If (decide (s.size ≤ 1048576)) (K (.tup [.ro (parseL (listOf s)).length 7 (listG ctC ct0 (parseL (listOf s))), .int .i64 (parseE (listOf s)), .int .i64 (parseAt (listOf s))]) [] [])
  | _, _, _ => False
theorem pa_sat (xs : List SV) (σ : List (Option SB)) : Sat Tryd.prog 10 xs σ (cPa xs σ) := by
  intro K hK
  unfold cPa at hK
  split at hK
  case h_2 => exact hK.elim
  obtain ⟨h1, hK⟩ := If.get hK
  exact ⟨_, _, _, hK, parse_ok _ (of_decide_eq_true h1)⟩
noncomputable def c9 : Know Tryd.prog := (c8).add 10 cPa pa_sat
end Go.Proofs.YtjlmofhokbnloaaDoor

