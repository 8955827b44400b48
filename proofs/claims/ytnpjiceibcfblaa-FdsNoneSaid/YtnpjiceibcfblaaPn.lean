/- fds.New at int and at string; Put and Take on a nil pipe and on the zero one; the state of a pipe between two calls, and its calls by that state. Conditions: as each theorem states. -/
import Derived.Test.YtnpjiceibcfblaaPp
import Derived.WalkKit
import Derived.WalkSpells
import Derived.Below
namespace Go.Proofs.Ytnpjiceibcfblaa
open Go.Conc Go.RowKit

theorem bytesI : ∃ i, Try.prog.info? 3 = some i ∧ i.bytes = 8 := by
  have h : (Try.prog.info? 3).map (·.bytes) = some 8 := by kernel_rfl
  obtain ⟨i, hi, hb⟩ := Option.map_eq_some_iff.1 h
  exact ⟨i, hi, hb⟩
theorem bytesS : ∃ i, Try.prog.info? 9 = some i ∧ i.bytes = 16 := by
  have h : (Try.prog.info? 9).map (·.bytes) = some 16 := by kernel_rfl
  obtain ⟨i, hi, hb⟩ := Option.map_eq_some_iff.1 h
  exact ⟨i, hi, hb⟩
theorem mkI (n : Nat) (hn : n ≤ 1024) (w : World) : (Instr.makeChan 48 (.int .i64 n)).run Try.prog w = .ok (.chan (some w.heap.size)) (w.alloc (.chan n #[] false 0 0 false)) := by
  obtain ⟨i, hi, hb⟩ := bytesI
  exact run_makeChan (P := Try.prog) (w := w) Try.underlying48 hi .i64 n (by omega) (by rw [hb]; omega)
theorem mkS (n : Nat) (hn : n ≤ 1024) (w : World) : (Instr.makeChan 56 (.int .i64 n)).run Try.prog w = .ok (.chan (some w.heap.size)) (w.alloc (.chan n #[] false 0 0 false)) := by
  obtain ⟨i, hi, hb⟩ := bytesS
  exact run_makeChan (P := Try.prog) (w := w) Try.underlying56 hi .i64 n (by omega) (by rw [hb]; omega)

theorem setChan_cell (w : World) (c cap : Nat) (buf : Array Value) (cl : Bool) (s r : Nat) (tm : Bool) (a : Addr) (h : a.block ≠ c) : (w.setChan c cap buf cl s r tm).cell? a = w.cell? a :=
  World.cell?_of_block (by simp only [World.setChan]; rw [Array.getElem?_setIfInBounds_ne (by omega)])

/-- A pipe between two calls: its struct lies in block g, its channel in block c; both are newer than B; below B all is as it was in w0. -/
structure Pip (w0 : World) (B g c cap : Nat) (buf : List Value) (wr : World) : Prop where
  cell : wr.cell? ⟨g, 0, none⟩ = some (.chan (some c))
  chan : ∃ s r, wr.heap[c]? = some (.chan cap buf.toArray false s r false)
  ne : g ≠ c
  hc : B ≤ c
  below : Below B w0 wr

set_option maxRecDepth 100000 in
set_option maxHeartbeats 1000000 in
theorem newI_any (size : Int) (n : Nat) (hn : n ≤ 1024) (h1 : 1 ≤ n) (hs : size = n ∨ (size < 1 ∧ n = 1)) (w : World) :
    Calls Try.prog 18 #[.int .i64 size] w fun e w' => e = .returned (.pointer (some ⟨w.heap.size + 1, 0, none⟩)) ∧ w' = (w.alloc (.chan n #[] false 0 0 false)).alloc (.cells #[.chan (some w.heap.size)] 50) := by
  rcases hs with rfl | ⟨hlt, rfl⟩
  · have hmk := mkI n hn
    have e1 : max (n : Int) 1 = n := by omega
    have e2 : min (n : Int) 1024 = n := by omega
    go_enter Try.func18, Try.ntmps18
    go_wp2
    go_ret
    exact ⟨rfl, rfl⟩
  · have hmk : ∀ w, (Instr.makeChan 48 (.int .i64 1)).run Try.prog w = .ok (.chan (some w.heap.size)) (w.alloc (.chan 1 #[] false 0 0 false)) := by intro w; have h := mkI 1 (by omega) w; simpa using h
    have e1 : max size 1 = 1 := by omega
    go_enter Try.func18, Try.ntmps18
    go_wp2
    go_ret
    exact ⟨rfl, rfl⟩

set_option maxRecDepth 100000 in
set_option maxHeartbeats 1000000 in
theorem putI_nil (v : Int) (w : World) : Calls Try.prog 19 #[.pointer none, .int .i64 v] w fun e w' => e = .returned (.bool false) ∧ w' = w := by
  have hq : ∀ w, (_root_.Go.binOp .eql 48 (.chan none) (.chan none)).run Try.prog w = .ok (.bool true) w := fun _ => by kernel_rfl
  go_enter Try.func19, Try.ntmps19
  go_wp2
  go_ret
  exact ⟨rfl, rfl⟩

set_option maxRecDepth 100000 in
set_option maxHeartbeats 1000000 in
theorem takeI_nil (w : World) : Calls Try.prog 20 #[.pointer none] w fun e w' => e = .returned (.tuple #[.int .i64 0, .bool false]) ∧ w' = w := by
  have hq : ∀ w, (_root_.Go.binOp .eql 48 (.chan none) (.chan none)).run Try.prog w = .ok (.bool true) w := fun _ => by kernel_rfl
  go_enter Try.func20, Try.ntmps20
  go_wp2
  go_ret2
  exact ⟨rfl, rfl⟩

set_option maxRecDepth 100000 in
set_option maxHeartbeats 1000000 in
theorem putI_zero (g : Nat) (v : Int) (w : World) (hg : w.cell? ⟨g, 0, none⟩ = some (.chan none)) : Calls Try.prog 19 #[.pointer (some ⟨g, 0, none⟩), .int .i64 v] w fun e w' => e = .returned (.bool false) ∧ w' = w := by
  have hq : ∀ w, (_root_.Go.binOp .eql 48 (.chan none) (.chan none)).run Try.prog w = .ok (.bool true) w := fun _ => by kernel_rfl
  go_enter Try.func19, Try.ntmps19
  go_wp2
  go_ret
  exact ⟨rfl, rfl⟩

set_option maxRecDepth 100000 in
set_option maxHeartbeats 1000000 in
theorem takeI_zero (g : Nat) (w : World) (hg : w.cell? ⟨g, 0, none⟩ = some (.chan none)) : Calls Try.prog 20 #[.pointer (some ⟨g, 0, none⟩)] w fun e w' => e = .returned (.tuple #[.int .i64 0, .bool false]) ∧ w' = w := by
  have hq : ∀ w, (_root_.Go.binOp .eql 48 (.chan none) (.chan none)).run Try.prog w = .ok (.bool true) w := fun _ => by kernel_rfl
  go_enter Try.func20, Try.ntmps20
  go_wp2
  go_ret2
  exact ⟨rfl, rfl⟩

theorem pip_putI_room {w0 wr : World} {B g c cap : Nat} {buf : List Value} (h : Pip w0 B g c cap buf wr) (v : Int) (hr : buf.length < cap) :
    Calls Try.prog 19 #[.pointer (some ⟨g, 0, none⟩), .int .i64 v] wr fun e w' => e = .returned (.bool true) ∧ Pip w0 B g c cap (buf ++ [.int .i64 v]) w' ∧ (∀ k, k ≠ c → w'.heap[k]? = wr.heap[k]?) := by
  obtain ⟨s, r, hc⟩ := h.chan
  have hlt := (Array.getElem?_eq_some_iff.1 hc).1
  refine (putI_room g c cap s r buf.toArray v wr h.cell hc (by simpa using hr)).mono ?_
  rintro e w' ⟨rfl, rfl⟩
  refine ⟨rfl, ⟨(setChan_cell _ _ _ _ _ _ _ _ _ h.ne).trans h.cell, ⟨s + 1, r, ?_⟩, h.ne, h.hc, below_setChan h.below h.hc _ _ _ _ _ _⟩, fun k hk => ?_⟩
  · rw [heap_setChan _ _ _ _ _ _ _ _ hlt]; simp
  · simp only [World.setChan]; rw [Array.getElem?_setIfInBounds_ne (by omega)]

theorem pip_putI_full {w0 wr : World} {B g c cap : Nat} {buf : List Value} (h : Pip w0 B g c cap buf wr) (v : Int) (hr : cap ≤ buf.length) :
    Calls Try.prog 19 #[.pointer (some ⟨g, 0, none⟩), .int .i64 v] wr fun e w' => e = .returned (.bool false) ∧ w' = wr := by
  obtain ⟨s, r, hc⟩ := h.chan
  exact putI_full g c cap s r buf.toArray v wr h.cell hc (by simpa using hr)

theorem pip_takeI_some {w0 wr : World} {B g c cap : Nat} {x : Value} {buf : List Value} (h : Pip w0 B g c cap (x :: buf) wr) :
    Calls Try.prog 20 #[.pointer (some ⟨g, 0, none⟩)] wr fun e w' => e = .returned (.tuple #[x, .bool true]) ∧ Pip w0 B g c cap buf w' ∧ (∀ k, k ≠ c → w'.heap[k]? = wr.heap[k]?) := by
  obtain ⟨s, r, hc⟩ := h.chan
  have hlt := (Array.getElem?_eq_some_iff.1 hc).1
  refine (takeI_some g c cap s r (x :: buf).toArray x wr h.cell hc (by simp) (by simp)).mono ?_
  rintro e w' ⟨rfl, rfl⟩
  refine ⟨rfl, ⟨(setChan_cell _ _ _ _ _ _ _ _ _ h.ne).trans h.cell, ⟨s, r + 1, ?_⟩, h.ne, h.hc, below_setChan h.below h.hc _ _ _ _ _ _⟩, fun k hk => ?_⟩
  · rw [heap_setChan _ _ _ _ _ _ _ _ hlt]; simp
  · simp only [World.setChan]; rw [Array.getElem?_setIfInBounds_ne (by omega)]

theorem pip_takeI_none {w0 wr : World} {B g c cap : Nat} (h : Pip w0 B g c cap [] wr) :
    Calls Try.prog 20 #[.pointer (some ⟨g, 0, none⟩)] wr fun e w' => e = .returned (.tuple #[.int .i64 0, .bool false]) ∧ w' = wr := by
  obtain ⟨s, r, hc⟩ := h.chan
  exact takeI_none g c cap s r wr h.cell hc

set_option maxRecDepth 100000 in
set_option maxHeartbeats 1000000 in
theorem newS_any (size : Int) (n : Nat) (hn : n ≤ 1024) (h1 : 1 ≤ n) (hs : size = n ∨ (size < 1 ∧ n = 1)) (w : World) :
    Calls Try.prog 15 #[.int .i64 size] w fun e w' => e = .returned (.pointer (some ⟨w.heap.size + 1, 0, none⟩)) ∧ w' = (w.alloc (.chan n #[] false 0 0 false)).alloc (.cells #[.chan (some w.heap.size)] 58) := by
  rcases hs with rfl | ⟨hlt, rfl⟩
  · have hmk := mkS n hn
    have e1 : max (n : Int) 1 = n := by omega
    have e2 : min (n : Int) 1024 = n := by omega
    go_enter Try.func15, Try.ntmps15
    go_wp2
    go_ret
    exact ⟨rfl, rfl⟩
  · have hmk : ∀ w, (Instr.makeChan 56 (.int .i64 1)).run Try.prog w = .ok (.chan (some w.heap.size)) (w.alloc (.chan 1 #[] false 0 0 false)) := by intro w; have h := mkS 1 (by omega) w; simpa using h
    have e1 : max size 1 = 1 := by omega
    go_enter Try.func15, Try.ntmps15
    go_wp2
    go_ret
    exact ⟨rfl, rfl⟩

set_option maxRecDepth 100000 in
set_option maxHeartbeats 1000000 in
theorem putS_nil (v : ByteArray) (w : World) : Calls Try.prog 16 #[.pointer none, .string v] w fun e w' => e = .returned (.bool false) ∧ w' = w := by
  have hq : ∀ w, (_root_.Go.binOp .eql 56 (.chan none) (.chan none)).run Try.prog w = .ok (.bool true) w := fun _ => by kernel_rfl
  go_enter Try.func16, Try.ntmps16
  go_wp2
  go_ret
  exact ⟨rfl, rfl⟩

set_option maxRecDepth 100000 in
set_option maxHeartbeats 1000000 in
theorem takeS_nil (w : World) : Calls Try.prog 17 #[.pointer none] w fun e w' => e = .returned (.tuple #[.string ⟨#[]⟩, .bool false]) ∧ w' = w := by
  have hq : ∀ w, (_root_.Go.binOp .eql 56 (.chan none) (.chan none)).run Try.prog w = .ok (.bool true) w := fun _ => by kernel_rfl
  go_enter Try.func17, Try.ntmps17
  go_wp2
  go_ret2
  exact ⟨rfl, rfl⟩

set_option maxRecDepth 100000 in
set_option maxHeartbeats 1000000 in
theorem putS_zero (g : Nat) (v : ByteArray) (w : World) (hg : w.cell? ⟨g, 0, none⟩ = some (.chan none)) : Calls Try.prog 16 #[.pointer (some ⟨g, 0, none⟩), .string v] w fun e w' => e = .returned (.bool false) ∧ w' = w := by
  have hq : ∀ w, (_root_.Go.binOp .eql 56 (.chan none) (.chan none)).run Try.prog w = .ok (.bool true) w := fun _ => by kernel_rfl
  go_enter Try.func16, Try.ntmps16
  go_wp2
  go_ret
  exact ⟨rfl, rfl⟩

set_option maxRecDepth 100000 in
set_option maxHeartbeats 1000000 in
theorem takeS_zero (g : Nat) (w : World) (hg : w.cell? ⟨g, 0, none⟩ = some (.chan none)) : Calls Try.prog 17 #[.pointer (some ⟨g, 0, none⟩)] w fun e w' => e = .returned (.tuple #[.string ⟨#[]⟩, .bool false]) ∧ w' = w := by
  have hq : ∀ w, (_root_.Go.binOp .eql 56 (.chan none) (.chan none)).run Try.prog w = .ok (.bool true) w := fun _ => by kernel_rfl
  go_enter Try.func17, Try.ntmps17
  go_wp2
  go_ret2
  exact ⟨rfl, rfl⟩

theorem pip_putS_room {w0 wr : World} {B g c cap : Nat} {buf : List Value} (h : Pip w0 B g c cap buf wr) (v : ByteArray) (hr : buf.length < cap) :
    Calls Try.prog 16 #[.pointer (some ⟨g, 0, none⟩), .string v] wr fun e w' => e = .returned (.bool true) ∧ Pip w0 B g c cap (buf ++ [.string v]) w' ∧ (∀ k, k ≠ c → w'.heap[k]? = wr.heap[k]?) := by
  obtain ⟨s, r, hc⟩ := h.chan
  have hlt := (Array.getElem?_eq_some_iff.1 hc).1
  refine (putS_room g c cap s r buf.toArray v wr h.cell hc (by simpa using hr)).mono ?_
  rintro e w' ⟨rfl, rfl⟩
  refine ⟨rfl, ⟨(setChan_cell _ _ _ _ _ _ _ _ _ h.ne).trans h.cell, ⟨s + 1, r, ?_⟩, h.ne, h.hc, below_setChan h.below h.hc _ _ _ _ _ _⟩, fun k hk => ?_⟩
  · rw [heap_setChan _ _ _ _ _ _ _ _ hlt]; simp
  · simp only [World.setChan]; rw [Array.getElem?_setIfInBounds_ne (by omega)]

theorem pip_putS_full {w0 wr : World} {B g c cap : Nat} {buf : List Value} (h : Pip w0 B g c cap buf wr) (v : ByteArray) (hr : cap ≤ buf.length) :
    Calls Try.prog 16 #[.pointer (some ⟨g, 0, none⟩), .string v] wr fun e w' => e = .returned (.bool false) ∧ w' = wr := by
  obtain ⟨s, r, hc⟩ := h.chan
  exact putS_full g c cap s r buf.toArray v wr h.cell hc (by simpa using hr)

theorem pip_takeS_some {w0 wr : World} {B g c cap : Nat} {x : Value} {buf : List Value} (h : Pip w0 B g c cap (x :: buf) wr) :
    Calls Try.prog 17 #[.pointer (some ⟨g, 0, none⟩)] wr fun e w' => e = .returned (.tuple #[x, .bool true]) ∧ Pip w0 B g c cap buf w' ∧ (∀ k, k ≠ c → w'.heap[k]? = wr.heap[k]?) := by
  obtain ⟨s, r, hc⟩ := h.chan
  have hlt := (Array.getElem?_eq_some_iff.1 hc).1
  refine (takeS_some g c cap s r (x :: buf).toArray x wr h.cell hc (by simp) (by simp)).mono ?_
  rintro e w' ⟨rfl, rfl⟩
  refine ⟨rfl, ⟨(setChan_cell _ _ _ _ _ _ _ _ _ h.ne).trans h.cell, ⟨s, r + 1, ?_⟩, h.ne, h.hc, below_setChan h.below h.hc _ _ _ _ _ _⟩, fun k hk => ?_⟩
  · rw [heap_setChan _ _ _ _ _ _ _ _ hlt]; simp
  · simp only [World.setChan]; rw [Array.getElem?_setIfInBounds_ne (by omega)]

theorem pip_takeS_none {w0 wr : World} {B g c cap : Nat} (h : Pip w0 B g c cap [] wr) :
    Calls Try.prog 17 #[.pointer (some ⟨g, 0, none⟩)] wr fun e w' => e = .returned (.tuple #[.string ⟨#[]⟩, .bool false]) ∧ w' = wr := by
  obtain ⟨s, r, hc⟩ := h.chan
  exact takeS_none g c cap s r wr h.cell hc

end Go.Proofs.Ytnpjiceibcfblaa
