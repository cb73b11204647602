/- Maps with int keys that a call makes by a literal. No condition. -/
import Derived.WideMake
import Derived.Test.YtcokiflkjnekeaaGreatBase
namespace Go.Hg
section
variable {P : Program} (W : World) (r : Nat) (hr : W.heap.size = r) {mty kt et : TypeId} (hm : P.underlying mty = some (.map kt et)) (hk : P.underlying kt = some (.int .i64)) (es : Array MapEntry) (c : Nat) (k : Int)
include hr hm hk
theorem run_ins (val : Value) (hf : Instr.findNow (.int .i64) (.int .i64 k) es.toList 0 = some none) :
    (Instr.mapUpdate mty (.map (some r)) (.int .i64 k) val).run P (W.alloc (.map es c)) = .ok () (W.alloc (.map (es.push { key := .int .i64 k, val := val, born := c }) (c + 1))) := by
  subst hr
  have hb : (W.alloc (.map es c)).heap[W.heap.size]? = some (.map es c) := heap_alloc_new W _
  have hc : (Instr.checkKey false 10000 kt (.int .i64 k)).run P (W.alloc (.map es c)) = .ok () (W.alloc (.map es c)) := MapKept.run_checkKey (k := .int .i64 k) hk (by simp [MapKept.IsKey]) false 9999
  have e : ({ (W.alloc (.map es c)) with heap := (W.alloc (.map es c)).heap.setIfInBounds W.heap.size (.map (es.push { key := .int .i64 k, val := val, born := c }) (c + 1)) } : World) = W.alloc (.map (es.push { key := .int .i64 k, val := val, born := c }) (c + 1)) := by
    have e2 : (W.heap.push (.map es c)).setIfInBounds W.heap.size (.map (es.push { key := .int .i64 k, val := val, born := c }) (c + 1)) = W.heap.push (.map (es.push { key := .int .i64 k, val := val, born := c }) (c + 1)) := by
      apply Array.ext'
      simp
    simp only [World.alloc, e2]
  rw [← e]
  simp [Instr.mapUpdate, run_underlying hm, MapKept.run_getObj_map hb, hc, MapKept.run_findKey hk hf, MapKept.run_setObj_map _ hb, Result.andThen]
theorem run_look_hit (i : Nat) (v : Value) (hf : Instr.findNow (.int .i64) (.int .i64 k) es.toList 0 = some (some (i, v))) :
    (Instr.lookup mty (.map (some r)) (.int .i64 k) true).run P (W.alloc (.map es c)) = .ok (.tuple #[v, .bool true]) (W.alloc (.map es c)) := by
  subst hr
  have hb : (W.alloc (.map es c)).heap[W.heap.size]? = some (.map es c) := heap_alloc_new W _
  have hc : (Instr.checkKey es.isEmpty 10000 kt (.int .i64 k)).run P (W.alloc (.map es c)) = .ok () (W.alloc (.map es c)) := MapKept.run_checkKey (k := .int .i64 k) hk (by simp [MapKept.IsKey]) es.isEmpty 9999
  have hf' := MapKept.run_findKey (P := P) (w := W.alloc (.map es c)) hk hf
  simp [Instr.lookup, run_underlying hm, MapKept.run_getObj_map hb, Result.andThen]
  rw [hc]
  simp [hf']
theorem run_look_miss (z : Value) (hz : ∀ w, (zeroValue et).run P w = .ok z w) (hf : Instr.findNow (.int .i64) (.int .i64 k) es.toList 0 = some none) :
    (Instr.lookup mty (.map (some r)) (.int .i64 k) true).run P (W.alloc (.map es c)) = .ok (.tuple #[z, .bool false]) (W.alloc (.map es c)) := by
  subst hr
  have hb : (W.alloc (.map es c)).heap[W.heap.size]? = some (.map es c) := heap_alloc_new W _
  have hc : (Instr.checkKey es.isEmpty 10000 kt (.int .i64 k)).run P (W.alloc (.map es c)) = .ok () (W.alloc (.map es c)) := MapKept.run_checkKey (k := .int .i64 k) hk (by simp [MapKept.IsKey]) es.isEmpty 9999
  have hf' := MapKept.run_findKey (P := P) (w := W.alloc (.map es c)) hk hf
  simp [Instr.lookup, run_underlying hm, MapKept.run_getObj_map hb, Result.andThen]
  rw [hc]
  simp [hf', hz]
end
end Go.Hg
