/- Wal, plain: what a turn, a Sync, a Restart come to. -/
import Derived.Test.YtcgokafhkkmaoaaWkP
namespace Go.Proofs.Ytcgokafhkkmaoaa
open Go.RowKit Go.Maps

/-- The other mark is the one ahead of this one. -/
def Strong (D : DS) (L : LogS) : Prop := ∃ e f, MarkI (D.bytes (L.first + ((L.number + 1 : Nat) : Int) % 2)) (L.number - 1) e f
/-- Whatever survives, the log is the old one, or it has just these bytes. -/
def Crash (D : DS) (L : LogS) (b2 : List UInt8) : Prop := ∀ keep torn, ∃ L', WalI (D.up keep torn) L' ∧ L'.first = L.first ∧ L'.size = L.size ∧ L'.more = [] ∧ (L'.bytes = L.bytes ∨ L'.bytes = b2) ∧ L'.number ≤ L.number + 1
def Rooms (D D' : DS) : Prop := D'.room = D.room ∧ D'.blocks = D.blocks ∧ (D.fuse < 0 → D'.fuse < 0)
theorem Rooms.trans {D D' D'' : DS} (h : Rooms D D') (k : Rooms D' D'') : Rooms D D'' := ⟨k.1.trans h.1, k.2.1.trans h.2.1, fun hf => k.2.2 (h.2.2 hf)⟩
theorem tick_neg {f : Int} (h : f < 0) : tickF f < 0 := by unfold tickF; rw [if_neg (by omega)]; exact h

theorem WalI.marked {D D2 : DS} {L : LogS} (h : WalI D L) {all : List UInt8} {e' : Nat} (hd : D2.down = false) (hl : D2.loose = []) (hb : D2.blocks = D.blocks) (hby : D2.Byt) (hok : D2.Ok)
    (hs : ∀ n, 0 ≤ n → n < D.blocks → n ≠ L.first + ((L.number + 1 : Nat) : Int) % 2 → D2.bytes n = D.bytes n) (hm : MarkI (D2.bytes (L.first + ((L.number + 1 : Nat) : Int) % 2)) (L.number + 1) e' all.length)
    (hdat : DataI D L.first all) (ha : (all.length : Int) ≤ (L.size - 2) * 256) (hn : L.number + 1 < 4294967296) (he : e' < 4294967296) :
    WalI D2 ⟨L.first, L.size, L.number + 1, e', all.length, all, []⟩ ∧ Strong D2 ⟨L.first, L.size, L.number + 1, e', all.length, all, []⟩ := by
  obtain ⟨b0, b1, b2, b3⟩ := h.bounds
  have hcur : D2.bytes (L.first + ((L.number + 1 + 1 : Nat) : Int) % 2) = D.bytes (L.first + (L.number : Int) % 2) := by
    rw [show ((L.number + 1 + 1 : Nat) : Int) % 2 = (L.number : Int) % 2 by omega]
    exact hs _ (by omega) (by omega) (by omega)
  refine ⟨⟨hd, hl, hby, hok, by rw [hb]; exact h.fit, by rw [hb]; exact h.blk, Nat.succ_pos _, hn, he, rfl, ha, hm, fun _ => ?_, fun i b hi => ?_⟩, ?_⟩
  · show num (D2.bytes (L.first + ((L.number + 1 + 1 : Nat) : Int) % 2)) 0 < L.number + 1
    rw [hcur, h.mark.1]; omega
  · have hi' : all[i]? = some b := hi
    have hil : i < all.length := by
      rcases Nat.lt_or_ge i all.length with h' | h'
      · exact h'
      · rw [List.getElem?_eq_none h'] at hi'; cases hi'
    show (D2.bytes (L.first + 2 + ((i / 256 : Nat) : Int)))[i % 256]? = some b
    rw [hs _ (by omega) (by omega) (by omega)]
    exact hdat i b hi'
  · refine ⟨L.epoch, L.fin, ?_⟩
    show MarkI (D2.bytes (L.first + ((L.number + 1 + 1 : Nat) : Int) % 2)) (L.number + 1 - 1) _ _
    rw [hcur]
    exact h.mark
theorem WalI.unmarked {D D2 : DS} {L : LogS} (h : WalI D L) (hd : D2.down = false) (hl : D2.loose = []) (hb : D2.blocks = D.blocks) (hby : D2.Byt) (hok : D2.Ok)
    (hs : ∀ n, 0 ≤ n → n < D.blocks → n ≠ L.first + ((L.number + 1 : Nat) : Int) % 2 → D2.bytes n = D.bytes n)
    (ho : lookB (D2.bytes (L.first + ((L.number + 1 : Nat) : Int) % 2)) ((L.number + 1) % 2) = true → num (D2.bytes (L.first + ((L.number + 1 : Nat) : Int) % 2)) 0 < L.number) : WalI D2 { L with more := [] } := by
  obtain ⟨b0, b1, b2, b3⟩ := h.bounds
  refine ⟨hd, hl, hby, hok, by rw [hb]; exact h.fit, by rw [hb]; exact h.blk, h.num1, h.num2, h.ep, h.fin, h.area, ?_, ho, fun i b hi => ?_⟩
  · show MarkI (D2.bytes (L.first + (L.number : Int) % 2)) _ _ _
    rw [hs _ (by omega) (by omega) (by omega)]
    exact h.mark
  · have hi' : L.bytes[i]? = some b := hi
    have hil : i < L.bytes.length := by
      rcases Nat.lt_or_ge i L.bytes.length with h' | h'
      · exact h'
      · rw [List.getElem?_eq_none h'] at hi'; cases hi'
    have ha := h.area
    show (D2.bytes (L.first + 2 + ((i / 256 : Nat) : Int)))[i % 256]? = some b
    rw [hs _ (by omega) (by omega) (by omega)]
    exact h.data i b hi'

theorem markL_length (n e f : Nat) : (markL n e f).length = 256 := markAt_length _ 3 (Nat.le_refl _)
/-- A turn. -/
theorem WalI.turns {D : DS} {L : LogS} (h : WalI D L) {all : List UInt8} {e' : Nat} (hdat : DataI D L.first all) (ha : (all.length : Int) ≤ (L.size - 2) * 256) (hn : L.number + 1 < 4294967296) (he : e' < 4294967296) (hr : L.first + 1 < D.room) :
    (∃ D', turnF D L.first (L.number + 1) e' all.length = (D', 0) ∧ WalI D' ⟨L.first, L.size, L.number + 1, e', all.length, all, []⟩ ∧ Strong D' ⟨L.first, L.size, L.number + 1, e', all.length, all, []⟩ ∧ Rooms D D') ∨
    (0 ≤ D.fuse ∧ ∃ D', turnF D L.first (L.number + 1) e' all.length = (D', 44) ∧ D'.down = true ∧ (Strong D L → Crash D' L all)) := by
  obtain ⟨b0, b1, b2, b3⟩ := h.bounds
  obtain ⟨s, hs⟩ : ∃ s, s = L.first + ((L.number + 1 : Nat) : Int) % 2 := ⟨_, rfl⟩
  have hs0 : 0 ≤ s ∧ s < D.blocks ∧ s < D.room := by omega
  obtain ⟨m, hm⟩ : ∃ m, m = markL (L.number + 1) e' all.length := ⟨_, rfl⟩
  have hml : m.length = 256 := by rw [hm]; exact markL_length _ _ _
  have hal : all.length < 18446744073709551616 := by have := h.blk; omega
  have hmI : MarkI (m.map toU8) (L.number + 1) e' all.length := by rw [hm, markL_ints, map_ints]; exact markB_num _ _ _ (by omega) (by omega) hal
  have hmB : ∃ bs, m = ints bs := ⟨_, by rw [hm, markL_ints]⟩
  have hbyt : ∀ l : List (Int × List Int), (∀ x ∈ l, x = (s, m)) → ∀ (D2 : DS), D2.firm = D.firm → D2.loose = l → D2.Byt := fun l hl D2 hf hlo => ⟨fun x hx => by rw [hlo] at hx; rw [hl x hx]; exact hmB, by rw [hf]; exact h.byt.firm⟩
  have hokt : ∀ l : List (Int × List Int), (∀ x ∈ l, x = (s, m)) → ∀ (D2 : DS), D2.firm = D.firm → D2.loose = l → D2.Ok := fun l hl D2 hf hlo => ⟨fun x hx => by rw [hlo] at hx; rw [hl x hx]; exact hml, by rw [hf]; exact h.ok.2⟩
  have hbo : ∀ n, 0 ≤ n → n < D.blocks → D.bytes n = ((D.firm n).getD noughts).map toU8 := fun n h0 h1 => DS.bytes_of h.down h.loose h0 h1
  by_cases hf : D.fuse = 0
  · refine .inr ⟨by omega, { D with down := true, fuse := -1 }, ?_, rfl, fun _ keep torn => ⟨{ L with more := [] }, ?_, rfl, rfl, rfl, .inl rfl, Nat.le_succ _⟩⟩
    · unfold turnF; rw [D.write_dn h.down hf]; simp
    · have hokD := hokt [] (fun _ hx => by cases hx) { D with down := true, fuse := -1 } rfl h.loose
      refine h.unmarked rfl rfl rfl ((hbyt [] (fun _ hx => by cases hx) _ rfl h.loose).up keep torn) (hokD.up keep torn) (fun n h0 h1 _ => ?_) (fun hlk => ?_)
      · rcases DS.up_bytes hokD (by rw [show ({ D with down := true, fuse := -1 } : DS).loose = [] from h.loose]; exact List.nodup_nil) keep torn n h0 h1 with e | ⟨l, t, hl, _⟩
        · rw [e, hbo n h0 h1]
        · rw [show ({ D with down := true, fuse := -1 } : DS).loose = [] from h.loose] at hl; cases hl
      · have hsame : (({ D with down := true, fuse := -1 } : DS).up keep torn).bytes s = D.bytes s := by
          rcases DS.up_bytes hokD (by rw [show ({ D with down := true, fuse := -1 } : DS).loose = [] from h.loose]; exact List.nodup_nil) keep torn s hs0.1 hs0.2.1 with e | ⟨l, t, hl, _⟩
          · rw [e, hbo s hs0.1 hs0.2.1]
          · rw [show ({ D with down := true, fuse := -1 } : DS).loose = [] from h.loose] at hl; cases hl
        rw [← hs, hsame] at hlk ⊢
        have := h.other
        rw [← hs] at this
        exact this hlk
  · have hw := D.write_go h.down hf hs0.1 hs0.2.1 hs0.2.2 m
    rw [h.loose, List.nil_append] at hw
    by_cases hf2 : tickF D.fuse = 0
    · have hfp : 0 ≤ D.fuse := by unfold tickF at hf2; split at hf2 <;> omega
      obtain ⟨D1, hD1⟩ : ∃ D1 : DS, D1 = { D with fuse := -1, down := true, loose := [(s, m)] } := ⟨_, rfl⟩
      have hone : ∀ x ∈ [(s, m)], x = (s, m) := fun x hx => List.mem_singleton.1 hx
      have hok1 : D1.Ok := hokt [(s, m)] hone D1 (by rw [hD1]) (by rw [hD1])
      have hby1 : D1.Byt := hbyt [(s, m)] hone D1 (by rw [hD1]) (by rw [hD1])
      refine .inr ⟨hfp, D1, ?_, by rw [hD1], fun hst keep torn => ?_⟩
      · unfold turnF
        rw [← hs, ← hm, hw]
        simp only [↓reduceIte]
        rw [DS.sync_dn (D := { D with fuse := tickF D.fuse, loose := [(s, m)] }) h.down hf2, hD1]
      · have hb1 : D1.blocks = D.blocks := by rw [hD1]
        have hnd : (D1.loose.map (·.1)).Nodup := by rw [hD1]; simp
        have hup : ∀ n, 0 ≤ n → n < D.blocks → (D1.up keep torn).bytes n = D.bytes n ∨ (n = s ∧ ∃ t, t ≤ 256 ∧ (D1.up keep torn).bytes n = (m.map toU8).take t ++ (D.bytes n).drop t) := fun n h0 h1 => by
          have hfi : D1.firm = D.firm := by rw [hD1]
          rcases DS.up_bytes hok1 hnd keep torn n h0 (by rw [hb1]; exact h1) with e | ⟨l, t, hl, ht, e⟩
          · refine .inl ?_
            rw [e, hfi, hbo n h0 h1]
          · have hl' : (n, l) = (s, m) := hone _ (by rw [hD1] at hl; exact hl)
            injection hl' with e1 e2
            subst e2
            exact .inr ⟨e1, t, ht, by rw [e, hfi, hbo n h0 h1]⟩
        have hso : ∀ n, 0 ≤ n → n < D.blocks → n ≠ L.first + ((L.number + 1 : Nat) : Int) % 2 → (D1.up keep torn).bytes n = D.bytes n := fun n h0 h1 hne => by
          rcases hup n h0 h1 with e | ⟨e, _⟩
          · exact e
          · exact absurd (e.trans hs) hne
        have hbu : (D1.up keep torn).blocks = D.blocks := hb1
        obtain ⟨e0, f0, hC⟩ := hst
        rw [← hs] at hC
        have hcl : (D.bytes s).length = 256 := h.ok.bytes_length s
        have hn1 := h.num1
        rcases hup s hs0.1 hs0.2.1 with e | ⟨_, t, ht, e⟩
        · refine ⟨{ L with more := [] }, h.unmarked rfl rfl hbu (hby1.up keep torn) (hok1.up keep torn) hso (fun hlk => ?_), rfl, rfl, rfl, .inl rfl, Nat.le_succ _⟩
          rw [← hs, e] at hlk ⊢
          have := h.other
          rw [← hs] at this
          exact this hlk
        · have htm := torn_mark (a := m.map toU8) (c := D.bytes s) (m := L.number - 1) (e := e') (f := all.length) (e0 := e0) (f0 := f0) (t := t) (k := (L.number + 1) % 2) (by rw [List.length_map, hml]) hcl (by rw [show L.number - 1 + 2 = L.number + 1 by omega]; exact hmI) hC ht
          by_cases h48 : 48 ≤ t
          · have hmk := htm.1 h48
            rw [show L.number - 1 + 2 = L.number + 1 by omega, ← e, hs] at hmk
            exact ⟨_, (h.marked rfl rfl hbu (hby1.up keep torn) (hok1.up keep torn) hso hmk hdat ha hn he).1, rfl, rfl, rfl, .inr rfl, Nat.le_refl _⟩
          · refine ⟨{ L with more := [] }, h.unmarked rfl rfl hbu (hby1.up keep torn) (hok1.up keep torn) hso (fun hlk => ?_), rfl, rfl, rfl, .inl rfl, Nat.le_succ _⟩
            rw [← hs, e] at hlk ⊢
            have := htm.2 (by omega) hlk
            omega
    · refine .inl ⟨{ D with fuse := tickF (tickF D.fuse), firm := putF D.firm (s, m), loose := [], entries := D.entries + 1 }, ?_, ?_⟩
      · unfold turnF
        rw [← hs, ← hm, hw]
        simp only [↓reduceIte]
        rw [DS.sync_go (D := { D with fuse := tickF D.fuse, loose := [(s, m)] }) h.down hf2]
        rfl
      · obtain ⟨D2, hD2⟩ : ∃ D2 : DS, D2 = { D with fuse := tickF (tickF D.fuse), firm := putF D.firm (s, m), loose := [], entries := D.entries + 1 } := ⟨_, rfl⟩
        rw [← hD2]
        have hby2 : D2.Byt := by
          rw [hD2]
          exact ⟨(fun x hx => by cases hx), puts_byt [(s, m)] D.firm h.byt.firm fun x hx => by rw [List.mem_singleton.1 hx]; exact hmB⟩
        have hok2 : D2.Ok := by
          rw [hD2]
          exact ⟨(fun x hx => by cases hx), OkF.puts [(s, m)] D.firm h.ok.2 fun x hx => by rw [List.mem_singleton.1 hx]; exact hml⟩
        have hb2 : ∀ n, 0 ≤ n → n < D.blocks → D2.bytes n = ((putF D.firm (s, m) n).getD noughts).map toU8 := fun n h0 h1 => by
          rw [hD2]; exact DS.bytes_of (D := { D with fuse := tickF (tickF D.fuse), firm := putF D.firm (s, m), loose := [], entries := D.entries + 1 }) h.down rfl h0 h1
        obtain ⟨r1, r2⟩ := h.marked (D2 := D2) (all := all) (e' := e') (by rw [hD2]; exact h.down) (by rw [hD2]) (by rw [hD2]) hby2 hok2 (fun n h0 h1 hne => by
          rw [hb2 n h0 h1, hbo n h0 h1]
          unfold putF
          rw [if_neg (by rw [hs]; exact hne)]) (by
          rw [← hs, hb2 s hs0.1 hs0.2.1]
          unfold putF
          rw [if_pos rfl]
          exact hmI) hdat ha hn he
        refine ⟨r1, r2, ?_⟩
        rw [hD2]
        exact ⟨rfl, rfl, fun hf => tick_neg (tick_neg hf)⟩

end Go.Proofs.Ytcgokafhkkmaoaa
