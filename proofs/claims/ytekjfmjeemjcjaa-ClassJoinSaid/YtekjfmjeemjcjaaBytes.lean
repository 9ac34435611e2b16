/-
  Rows of bytes that a call has built. No program is named here. Nothing is assumed.
-/
import Derived.Test.YtekjfmjeemjcjaaRow
import Derived.Lib.AppendStr
import Derived.Laws.IdiomStrings
import Derived.Lib.BufferRead
namespace Go.Proofs.Ytekjfmjeemjcjaa
open Go.RowKit Go.Lib

theorem strCells_append (a b : ByteArray) : strCells (a ++ b) = strCells a ++ strCells b := by
  unfold strCells; rw [ByteArray.data_append]; simp
/-- The slice value v owns the bytes b. -/
def Br (w : World) (base : Nat) (e : TypeId) (v : Value) (b : ByteArray) : Prop := w.ownsRow base e 1 v b.size (strCells b)
theorem Br.nil (w : World) (base : Nat) (e : TypeId) : Br w base e (.slice none 0 0) ⟨#[]⟩ := World.ownsRow_nil w base e 1
theorem Br.below {w w' : World} {base : Nat} {e : TypeId} {v : Value} {b : ByteArray} (h : Br w base e v b) (hb : Below w.heap.size w w') : Br w' base e v b := by
  refine ⟨h.1, ?_⟩
  rcases h.2 with hn | ⟨g, cap, cur, rfl, h2, h3, rest⟩
  · exact .inl hn
  · exact .inr ⟨g, cap, cur, rfl, h2, some_lt h3 hb, rest⟩
theorem Br.lt {w : World} {base : Nat} {e : TypeId} {v : Value} {b : ByteArray} (h : Br w base e v b) : ∀ k, v.ownBlock = some k → base ≤ k ∧ k < w.heap.size := World.ownsRow.lt h
theorem Br.conv {P : Program} {w : World} {base : Nat} {el : TypeId} {v : Value} {b : ByteArray} (h : Br w base el v b) (src dst e : TypeId) (hs : P.underlying src = some (.slice e)) (he : P.underlying e = some (.int .u8)) (hd : P.underlying dst = some .string) :
    (convert src dst v).run P w = .ok (.string b) w := by
  rcases h.2 with ⟨rfl, h2⟩ | ⟨g, cap, cur, rfl, _, _, _⟩
  · have hb : b = ⟨#[]⟩ := by
      apply ByteArray.ext; exact Array.eq_empty_of_size_eq_zero h2
    rw [hb]; exact run_convert_nil_bytes w src dst e 0 hs he hd
  · have hl : b.data.toList.length = b.size := by rw [Array.length_toList]; rfl
    have := run_convert_bytes_back (P := P) w src dst e ⟨g, 0, none⟩ cap b.data.toList hs he hd (fun j hj => by
      refine World.ownsRow.cells h rfl j _ ?_
      unfold strCells; rw [List.getElem?_map, List.getElem?_eq_getElem hj]; rfl)
    rw [hl] at this
    rw [this]

theorem wpList_append_bytes {P : Program} (w : World) {ops : Array Oper} {rest : List Oper} {o : Oper} {a : Act} {Q : Exit → Act → World → Prop} (hgd : o.guard = none) (sl x : Operand) (t u : TypeId)
    (ho : o.op = .call { callee := .builtin .append, args := #[sl, x], argTypes := #[t, u] })
    (base : Nat) (e : TypeId) (i : TypeInfo) (ht : P.underlying t = some (.slice e)) (hu : P.underlying u = some .string) (hi : P.info? e = some i) (hz : i.zero = some (.int .u8 0))
    (hsize : i.size = 1) (hby : i.bytes = 1) (v : Value) (b : ByteArray) (hs : a.eval sl = v) (hown : Br w base e v b) (s : ByteArray) (hx : a.eval x = .string s)
    (hn : b.size + s.size ≤ 140737488355328) (hbase : base ≤ w.heap.size)
    (h : ∀ v' w', Br w' base e v' (b ++ s) → w.grownBy w' v.ownBlock → wpList P ops Q rest (a.put o.dst v') w') : wpList P ops Q (o :: rest) a w := by
  refine wpList_append_own_string w hgd sl x t u ho base e i ht hu hi hz hsize hby v b.size (strCells b) hs hown s hx (by simp [maxLen]; omega) hn hbase (fun v' w' h1 h2 _ => h v' w' ?_ h2)
  unfold Br; rw [strCells_append, ByteArray.size_append]; exact h1

end Go.Proofs.Ytekjfmjeemjcjaa
