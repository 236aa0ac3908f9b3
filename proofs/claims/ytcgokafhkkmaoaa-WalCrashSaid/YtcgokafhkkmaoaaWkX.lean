/- Wal, plain: how a run goes until the disk is down. -/
import Derived.Test.YtcgokafhkkmaoaaWkW
namespace Go.Proofs.Ytcgokafhkkmaoaa
open Go.RowKit Go.Maps

/-- The log of these records, on a disk that is up. -/
structure UpI (D : DS) (L : LogS) (F : List (List UInt8)) : Prop where
  wal : WalI D L
  strong : Strong D L
  more : L.more = []
  bytes : L.bytes = enc F
  first : L.first = 3
  size : L.size = 30
  room : D.room = 40
theorem DS.write_rooms (D : DS) (n : Int) (l : List Int) : (D.write n l).1.room = D.room := by
  obtain ⟨_, e, _⟩ := D.begins_same
  unfold DS.write
  split
  · exact e
  · split
    · exact e
    · split <;> exact e
theorem DS.sync_rooms (D : DS) : D.sync.1.room = D.room := by
  obtain ⟨_, e, _⟩ := D.begins_same
  unfold DS.sync
  split <;> exact e
theorem wdown_rooms (first : Int) (all : List UInt8) (lo : Nat) : ∀ (k : Nat) (D : DS), (wdown first all lo k D).1.room = D.room
  | 0, _ => rfl
  | k + 1, D => by
    rw [wdown]
    show (if _ then _ else _ : DS × Int).1.room = _
    split
    · rw [wdown_rooms first all lo k]; exact D.write_rooms _ _
    · exact D.write_rooms _ _
theorem turnF_rooms (D : DS) (first : Int) (n e f : Nat) : (turnF D first n e f).1.room = D.room := by
  unfold turnF
  simp only
  split
  · rw [DS.sync_rooms]; exact D.write_rooms _ _
  · exact D.write_rooms _ _
theorem syncF_rooms (D : DS) (L : LogS) : (syncF D L).1.room = D.room := by
  unfold syncF
  simp only
  split
  · rfl
  · split
    · split
      · rw [turnF_rooms, DS.sync_rooms, wdown_rooms]
      · rw [DS.sync_rooms, wdown_rooms]
    · rw [wdown_rooms]
theorem restartF_rooms (D : DS) (L : LogS) : (restartF D L).1.room = D.room := by
  unfold restartF
  simp only
  split
  · rfl
  · rw [turnF_rooms]
/-- Whatever survives: the records are the ones or the others. -/
def EndI (D : DS) (F N : List (List UInt8)) : Prop := D.room = 40 ∧ ∀ keep torn, ∃ (L : LogS) (r : List (List UInt8)), WalI (D.up keep torn) L ∧ L.first = 3 ∧ L.size = 30 ∧ L.more = [] ∧ L.bytes = enc r ∧ (r = F ∨ r = N) ∧ L.number ≤ 4000000
/-- How often it was marked: each mark but those of Restart stands for eight bytes. -/
def NumI (L : LogS) (c : Nat) : Prop := L.number * 8 ≤ 16 + L.bytes.length + c ∧ c ≤ 7200 ∧ L.epoch ≤ L.number

theorem UpI.ends {D : DS} {L : LogS} {F : List (List UInt8)} (h : UpI D L F) (N : List (List UInt8)) (hn : L.number ≤ 4000000) : EndI D F N := ⟨h.room, fun keep torn => by
  have hl := h.wal.loose
  have hbo : ∀ n, 0 ≤ n → n < D.blocks → (D.up keep torn).bytes n = D.bytes n := fun n h0 h1 => by
    rcases DS.up_bytes h.wal.ok (by rw [hl]; exact List.nodup_nil) keep torn n h0 h1 with e | ⟨l, t, hin, _⟩
    · rw [e, DS.bytes_of h.wal.down hl h0 h1]
    · rw [hl] at hin; cases hin
  have hm := h.wal.mixed (D2 := D.up keep torn) [] rfl rfl rfl (h.wal.byt.up keep torn) (h.wal.ok.up keep torn) fun n h0 h1 => .inl (hbo n h0 h1)
  exact ⟨_, F, hm, h.first, h.size, rfl, h.bytes, .inl rfl, hn⟩⟩
theorem Crash.ends {D : DS} {L : LogS} {F N : List (List UInt8)} {b2 : List UInt8} (h : Crash D L b2) (h1 : L.first = 3) (h2 : L.size = 30) (hF : L.bytes = enc F) (hN : b2 = enc N) (hn : L.number < 4000000) (hr : D.room = 40) : EndI D F N := ⟨hr, fun keep torn => by
  obtain ⟨L', hW, e1, e2, e3, e4, e5⟩ := h keep torn
  rcases e4 with e4 | e4
  · exact ⟨L', F, hW, e1.trans h1, e2.trans h2, e3, e4.trans hF, .inl rfl, by omega⟩
  · exact ⟨L', N, hW, e1.trans h1, e2.trans h2, e3, e4.trans hN, .inr rfl, by omega⟩⟩
theorem UpI.area {D : DS} {L : LogS} {F : List (List UInt8)} (h : UpI D L F) : L.bytes.length ≤ 7168 := by
  have := h.wal.area
  rw [h.size] at this
  omega
theorem NumI.le {D : DS} {L : LogS} {F : List (List UInt8)} {c : Nat} (h : NumI L c) (hu : UpI D L F) : L.number ≤ 1798 := by
  have := hu.area
  obtain ⟨h1, h2, _⟩ := h
  omega

/-- A Sync of records that were appended. -/
theorem UpI.syncs {D : DS} {L0 L : LogS} {F rows : List (List UInt8)} {c : Nat} (h : UpI D L0 F) (hA : AppI L0 L rows) (hm : L.more.length ≠ 0) (hN : NumI L0 c) :
    (∃ D' L', syncF D L = (D', L', 0) ∧ UpI D' L' (F ++ rows) ∧ NumI L' c ∧ L'.number = L0.number + 1) ∨ (∃ D', syncF D L = (D', L0, 44) ∧ D'.down = true ∧ EndI D' F (F ++ rows)) := by
  have hL := hA.is
  have hW : WalI D L := by rw [hL]; exact h.wal.with_ _
  have hnum := hN.le h
  have e1 : L.first = L0.first := by rw [hL]
  have e2 : L.size = L0.size := by rw [hL]
  have e3 : L.number = L0.number := by rw [hL]
  have e4 : L.epoch = L0.epoch := by rw [hL]
  have e5 : L.bytes = L0.bytes := by rw [hL]
  have e6 : L.more = enc rows := by rw [hL]
  have hall : L.bytes ++ L.more = enc (F ++ rows) := by rw [e5, e6, h.bytes, enc_append]
  have h0 : ({ L with more := [] } : LogS) = L0 := by
    have := h.more
    rw [hL]; cases L0; simp only at this ⊢; rw [this]
  have ha := hA.area
  have hst : Strong D L := by
    obtain ⟨e, f, hs⟩ := h.strong
    exact ⟨e, f, by rw [e1, e3]; exact hs⟩
  rcases hW.syncs hm ha (by omega) (by rw [e1, h.first, h.room]; rw [e2, h.size] at ha; omega) with ⟨D', hs, hW', hS', hR⟩ | ⟨_, D', hs, hd, hC⟩
  · refine .inl ⟨D', _, hs, ⟨hW', hS', rfl, hall, e1.trans h.first, e2.trans h.size, hR.1.trans h.room⟩, ⟨?_, hN.2.1, ?_⟩, by simp only; omega⟩
    · have h1 := hN.1
      have h2 : 8 ≤ L.more.length := by
        rw [e6]
        cases rows with
        | nil => rw [e6] at hm; simp [enc] at hm
        | cons x r => rw [enc_cons, List.length_append, encR_length]; omega
      simp only [List.length_append]
      rw [e3, e5]
      omega
    · simp only; rw [e3, e4]; have := hN.2.2; omega
  · refine .inr ⟨D', by rw [hs, h0], hd, ?_⟩
    exact (hC hst).ends (e1.trans h.first) (e2.trans h.size) (e5.trans h.bytes) hall (by omega) (by have := syncF_rooms D L; rw [hs] at this; exact this.trans h.room)
/-- A Restart. -/
theorem UpI.restarts {D : DS} {L : LogS} {F : List (List UInt8)} (h : UpI D L F) (hN : NumI L 0) :
    (∃ D' L', restartF D L = (D', L', 0) ∧ UpI D' L' [] ∧ NumI L' 7200 ∧ L'.number = L.number + 1) ∨ (∃ D', restartF D L = (D', L, 44) ∧ D'.down = true ∧ EndI D' F []) := by
  have hnum := hN.le h
  have hep := hN.2.2
  rcases h.wal.restarts h.more (by omega) (by omega) (by rw [h.first, h.room]; omega) with ⟨D', hs, hW', hS', hR⟩ | ⟨_, D', hs, hd, hC⟩
  · refine .inl ⟨D', _, hs, ⟨hW', hS', rfl, rfl, h.first, h.size, hR.1.trans h.room⟩, ⟨?_, Nat.le_refl _, ?_⟩, rfl⟩
    · have h1 := hN.1
      have h2 := h.area
      simp only [List.length_nil]
      omega
    · simp only; omega
  · exact .inr ⟨D', hs, hd, (hC h.strong).ends h.first h.size h.bytes rfl (by omega) (by have := restartF_rooms D L; rw [hs] at this; exact this.trans h.room)⟩

end Go.Proofs.Ytcgokafhkkmaoaa
