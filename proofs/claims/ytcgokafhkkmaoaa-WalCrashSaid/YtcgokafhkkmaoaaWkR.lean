/- Wal, plain: Sync, Restart, Format. -/
import Derived.Test.YtcgokafhkkmaoaaWkQ
namespace Go.Proofs.Ytcgokafhkkmaoaa
open Go.RowKit Go.Maps

/-- Some of a Sync's blocks were written and not made last: whatever survives, the log is the old one. -/
theorem WalI.crashed {D D1 : DS} {L : LogS} (h : WalI D L) (k : Nat) (hfi : D1.firm = D.firm) (hb : D1.blocks = D.blocks) (hl : ∃ t, D1.loose = (wsOf L.first (L.bytes ++ L.more) (L.bytes.length / 256) k).take t) :
    Crash D1 L (L.bytes ++ L.more) := by
  obtain ⟨t, hl⟩ := hl
  intro keep torn
  have hmem : ∀ x ∈ D1.loose, ∃ q : Nat, x = (L.first + 2 + (q : Int), blkOf (L.bytes ++ L.more) q) := fun x hx => by
    rw [hl] at hx
    obtain ⟨q, _, _, e⟩ := wsOf_mem (List.mem_of_mem_take hx)
    exact ⟨q, e⟩
  have hok : D1.Ok := ⟨fun x hx => by obtain ⟨q, e⟩ := hmem x hx; rw [e]; exact blkOf_length _ _, by rw [hfi]; exact h.ok.2⟩
  have hby : D1.Byt := ⟨fun x hx => by obtain ⟨q, e⟩ := hmem x hx; rw [e]; exact ⟨_, blkOf_ints _ _⟩, by rw [hfi]; exact h.byt.firm⟩
  have hnd : (D1.loose.map (·.1)).Nodup := by
    rw [hl]
    exact (wsOf_nodup L.first (L.bytes ++ L.more) (L.bytes.length / 256) k).sublist ((List.take_sublist _ _).map _)
  refine ⟨{ L with more := [] }, h.mixed L.more rfl rfl hb (hby.up keep torn) (hok.up keep torn) (fun n h0 h1 => ?_), rfl, rfl, rfl, .inl rfl, Nat.le_succ _⟩
  rcases DS.up_bytes hok hnd keep torn n h0 (by rw [hb]; exact h1) with e | ⟨l, t', hin, ht, e⟩
  · refine .inl ?_
    rw [e, hfi, DS.bytes_of h.down h.loose h0 h1]
  · obtain ⟨q, e2⟩ := hmem _ hin
    injection e2 with e2 e3
    refine .inr ⟨q, e2, fun j hj => ?_⟩
    have hbl : (blkB (L.bytes ++ L.more) q).length = 256 := by
      have := blkOf_length (L.bytes ++ L.more) q
      rw [blkOf_ints, ints_length] at this
      exact this
    rw [e, e3, blkOf_ints, map_ints, hfi, ← DS.bytes_of h.down h.loose h0 h1]
    by_cases hjt : j < t'
    · refine .inr ?_
      rw [List.getElem?_append_left (by rw [List.length_take]; omega), List.getElem?_take, if_pos hjt]
    · refine .inl ?_
      rw [List.getElem?_append_right (by rw [List.length_take]; omega), List.length_take, List.getElem?_drop]
      congr 1; omega

/-- All of a Sync's blocks were made last. -/
theorem WalI.written {D D2 : DS} {L : LogS} (h : WalI D L) (k : Nat) (hk : L.bytes.length / 256 + k = ((L.bytes ++ L.more).length - 1) / 256 + 1) (ha : ((L.bytes ++ L.more).length : Int) ≤ (L.size - 2) * 256)
    (hd : D2.down = false) (hl : D2.loose = []) (hb : D2.blocks = D.blocks) (hfi : D2.firm = (wsOf L.first (L.bytes ++ L.more) (L.bytes.length / 256) k).foldl putF D.firm) :
    WalI D2 { L with more := [] } ∧ DataI D2 L.first (L.bytes ++ L.more) ∧ (Strong D L → Strong D2 { L with more := [] }) := by
  obtain ⟨b0, b1, b2, b3⟩ := h.bounds
  obtain ⟨ws, hws⟩ : ∃ ws, ws = wsOf L.first (L.bytes ++ L.more) (L.bytes.length / 256) k := ⟨_, rfl⟩
  rw [← hws] at hfi
  have hmem : ∀ x ∈ ws, ∃ q : Nat, L.bytes.length / 256 ≤ q ∧ q < L.bytes.length / 256 + k ∧ x = (L.first + 2 + (q : Int), blkOf (L.bytes ++ L.more) q) := fun x hx => by
    rw [hws] at hx; exact wsOf_mem hx
  have hok : D2.Ok := ⟨(fun x hx => by rw [hl] at hx; cases hx), by rw [hfi]; exact OkF.puts ws D.firm h.ok.2 fun x hx => by obtain ⟨q, _, _, e⟩ := hmem x hx; rw [e]; exact blkOf_length _ _⟩
  have hby : D2.Byt := ⟨(fun x hx => by rw [hl] at hx; cases hx), by rw [hfi]; exact puts_byt ws D.firm h.byt.firm fun x hx => by obtain ⟨q, _, _, e⟩ := hmem x hx; rw [e]; exact ⟨_, blkOf_ints _ _⟩⟩
  have hbo : ∀ n, 0 ≤ n → n < D.blocks → D.bytes n = ((D.firm n).getD noughts).map toU8 := fun n h0 h1 => DS.bytes_of h.down h.loose h0 h1
  have hb2 : ∀ n, 0 ≤ n → n < D.blocks → D2.bytes n = ((D2.firm n).getD noughts).map toU8 := fun n h0 h1 => DS.bytes_of hd hl h0 (by rw [hb]; exact h1)
  have hout : ∀ n, 0 ≤ n → n < D.blocks → n ∉ ws.map (·.1) → D2.bytes n = D.bytes n := fun n h0 h1 hn => by rw [hb2 n h0 h1, hbo n h0 h1, hfi, puts_none ws D.firm n hn]
  have hnames : ∀ n, n ∈ ws.map (·.1) → ∃ q : Nat, L.bytes.length / 256 ≤ q ∧ q < L.bytes.length / 256 + k ∧ n = L.first + 2 + (q : Int) := fun n hn => by
    obtain ⟨x, hx, e⟩ := List.mem_map.1 hn
    obtain ⟨q, h1, h2, rfl⟩ := hmem x hx
    exact ⟨q, h1, h2, e.symm⟩
  have hin : ∀ q : Nat, L.bytes.length / 256 ≤ q → q < L.bytes.length / 256 + k → L.first + 2 + (q : Int) < D.blocks → D2.bytes (L.first + 2 + (q : Int)) = blkB (L.bytes ++ L.more) q := fun q h1 h2 h3 => by
    rw [hb2 _ (by omega) h3, hfi, puts_some ws D.firm _ _ (by rw [hws]; exact wsOf_nodup _ _ _ _) (by rw [hws]; exact wsOf_in _ _ _ _ q h1 h2), Option.getD_some, blkOf_ints, map_ints]
  refine ⟨h.mixed L.more hd hl hb hby hok fun n h0 h1 => ?_, fun i b hi => ?_, fun ⟨e, f, hs⟩ => ⟨e, f, ?_⟩⟩
  · by_cases hn : n ∈ ws.map (·.1)
    · obtain ⟨q, h2, h3, e⟩ := hnames n hn
      refine .inr ⟨q, e, fun j _ => .inr ?_⟩
      rw [e, hin q h2 h3 (by rw [← e]; exact h1)]
    · exact .inl (hout n h0 h1 hn)
  · have hil : i < (L.bytes ++ L.more).length := by
      rcases Nat.lt_or_ge i (L.bytes ++ L.more).length with h' | h'
      · exact h'
      · rw [List.getElem?_eq_none h'] at hi; cases hi
    by_cases hlo : L.bytes.length / 256 ≤ i / 256
    · rw [hin (i / 256) hlo (by omega) (by omega)]
      refine blkB_get _ _ _ (by omega) b ?_
      rw [show 256 * (i / 256) + i % 256 = i by omega]
      exact hi
    · rw [hout _ (by omega) (by omega) (fun hn => by obtain ⟨q, h2, _, e⟩ := hnames _ hn; omega)]
      refine h.data i b ?_
      rw [List.getElem?_append_left (by omega)] at hi
      exact hi
  · show MarkI (D2.bytes (L.first + ((L.number + 1 : Nat) : Int) % 2)) (L.number - 1) e f
    rw [hout _ (by omega) (by omega) (fun hn => by obtain ⟨q, h2, _, e⟩ := hnames _ hn; omega)]
    exact hs

theorem wsOf_len (first : Int) (all : List UInt8) (lo : Nat) : ∀ k, (wsOf first all lo k).length ≤ k
  | 0 => Nat.le_refl _
  | k + 1 => Nat.succ_le_succ (wsOf_len first all lo k)
/-- Sync. -/
theorem WalI.syncs {D : DS} {L : LogS} (h : WalI D L) (hm : L.more.length ≠ 0) (ha : ((L.bytes ++ L.more).length : Int) ≤ (L.size - 2) * 256) (hn : L.number + 1 < 4294967296)
    (hr : L.first + 2 + (((L.bytes ++ L.more).length - 1) / 256 : Nat) < D.room) :
    (∃ D', syncF D L = (D', ⟨L.first, L.size, L.number + 1, L.epoch, (L.bytes ++ L.more).length, L.bytes ++ L.more, []⟩, 0) ∧ WalI D' ⟨L.first, L.size, L.number + 1, L.epoch, (L.bytes ++ L.more).length, L.bytes ++ L.more, []⟩ ∧
      Strong D' ⟨L.first, L.size, L.number + 1, L.epoch, (L.bytes ++ L.more).length, L.bytes ++ L.more, []⟩ ∧ Rooms D D') ∨
    (0 ≤ D.fuse ∧ ∃ D', syncF D L = (D', { L with more := [] }, 44) ∧ D'.down = true ∧ (Strong D L → Crash D' L (L.bytes ++ L.more))) := by
  obtain ⟨b0, b1, b2, b3⟩ := h.bounds
  have hlen : (L.bytes ++ L.more).length = L.bytes.length + L.more.length := List.length_append
  have hk : L.bytes.length / 256 + L.count = ((L.bytes ++ L.more).length - 1) / 256 + 1 := by unfold LogS.count; omega
  rcases wdown_out L.first (L.bytes ++ L.more) (L.bytes.length / 256) L.count D h.down b0 (fun q h1 h2 => ⟨by omega, by omega⟩) with ⟨f, hw, hf1, hf2⟩ | ⟨hf, t, hw⟩
  · rw [h.loose, List.nil_append] at hw
    obtain ⟨D1, hD1⟩ : ∃ D1 : DS, D1 = { D with fuse := f, loose := wsOf L.first (L.bytes ++ L.more) (L.bytes.length / 256) L.count } := ⟨_, rfl⟩
    rw [← hD1] at hw
    have hd1 : D1.down = false := by rw [hD1]; exact h.down
    by_cases h0 : f = 0
    · have hfp : 0 ≤ D.fuse := by rcases Int.lt_or_le D.fuse 0 with h' | h'
                                  · have := hf1 h'; omega
                                  · exact h'
      have hsy := DS.sync_dn hd1 (by rw [hD1]; exact h0)
      refine .inr ⟨hfp, { D1 with down := true, fuse := -1 }, ?_, rfl, fun _ => ?_⟩
      · unfold syncF; rw [if_neg hm, hw]; simp only [↓reduceIte]; rw [hsy]; simp
      · exact h.crashed L.count (by rw [hD1]) (by rw [hD1]) ⟨L.count, by rw [hD1]; simp only; rw [List.take_of_length_le]; exact wsOf_len _ _ _ _⟩
    · have hsy := DS.sync_go hd1 (by rw [hD1]; exact h0)
      obtain ⟨D2, hD2⟩ : ∃ D2 : DS, D2 = { D1 with fuse := tickF D1.fuse, firm := D1.loose.foldl putF D1.firm, loose := [], entries := D1.entries + D1.loose.length } := ⟨_, rfl⟩
      rw [← hD2] at hsy
      obtain ⟨w2, dat2, st2⟩ := h.written (D2 := D2) L.count hk ha (by rw [hD2]; exact hd1) (by rw [hD2]) (by rw [hD2, hD1]) (by rw [hD2, hD1])
      have hrooms : Rooms D D2 := by
        rw [hD2, hD1]
        exact ⟨rfl, rfl, fun hf => tick_neg (by rw [hf1 hf]; exact hf)⟩
      have hfuse : 0 ≤ D2.fuse → 0 ≤ D.fuse := fun h' => by
        rcases Int.lt_or_le D.fuse 0 with h'' | h''
        · have := hrooms.2.2 h''; omega
        · exact h''
      rcases w2.turns (all := L.bytes ++ L.more) (e' := L.epoch) dat2 ha hn h.ep (by rw [hrooms.1]; show L.first + 1 < _; omega) with ⟨D', ht, hW, hS, hR⟩ | ⟨hf, D', ht, hdn, hC⟩
      · refine .inl ⟨D', ?_, hW, hS, hrooms.trans hR⟩
        have ht' : turnF D2 L.first (L.number + 1) L.epoch (L.bytes ++ L.more).length = (D', 0) := ht
        unfold syncF; rw [if_neg hm, hw]; simp only [↓reduceIte]; rw [hsy]; simp only [↓reduceIte]; rw [ht']; simp
      · refine .inr ⟨hfuse hf, D', ?_, hdn, fun hs => hC (st2 hs)⟩
        have ht' : turnF D2 L.first (L.number + 1) L.epoch (L.bytes ++ L.more).length = (D', 44) := ht
        unfold syncF; rw [if_neg hm, hw]; simp only [↓reduceIte]; rw [hsy]; simp only [↓reduceIte]; rw [ht']; simp
  · refine .inr ⟨hf, _, ?_, ?_, fun _ => h.crashed L.count (D1 := { D with down := true, fuse := -1, loose := D.loose ++ (wsOf L.first (L.bytes ++ L.more) (L.bytes.length / 256) L.count).take t }) rfl rfl ⟨t, by simp only; rw [h.loose, List.nil_append]⟩⟩
    · unfold syncF; rw [if_neg hm, hw]; simp
    · rfl

/-- Restart. -/
theorem WalI.restarts {D : DS} {L : LogS} (h : WalI D L) (hm : L.more = []) (hn : L.number + 1 < 4294967296) (he : L.epoch + 1 < 4294967296) (hr : L.first + 1 < D.room) :
    (∃ D', restartF D L = (D', ⟨L.first, L.size, L.number + 1, L.epoch + 1, 0, [], []⟩, 0) ∧ WalI D' ⟨L.first, L.size, L.number + 1, L.epoch + 1, 0, [], []⟩ ∧ Strong D' ⟨L.first, L.size, L.number + 1, L.epoch + 1, 0, [], []⟩ ∧ Rooms D D') ∨
    (0 ≤ D.fuse ∧ ∃ D', restartF D L = (D', L, 44) ∧ D'.down = true ∧ (Strong D L → Crash D' L [])) := by
  obtain ⟨b0, b1, b2, b3⟩ := h.bounds
  rcases h.turns (all := []) (e' := L.epoch + 1) (fun i b hi => by simp at hi) (by simp; omega) hn he hr with ⟨D', ht, hW, hS, hR⟩ | ⟨hf, D', ht, hd, hC⟩
  · refine .inl ⟨D', ?_, hW, hS, hR⟩
    have ht' : turnF D L.first (L.number + 1) (L.epoch + 1) 0 = (D', 0) := ht
    unfold restartF; rw [if_neg (by rw [hm]; simp), ht']; simp [hm]
  · refine .inr ⟨hf, D', ?_, hd, hC⟩
    have ht' : turnF D L.first (L.number + 1) (L.epoch + 1) 0 = (D', 44) := ht
    unfold restartF; rw [if_neg (by rw [hm]; simp), ht']; simp

theorem noughts_mark : MarkI (noughts.map toU8) 0 0 0 := by
  have h : ∀ k, k + 8 ≤ 256 → num (noughts.map toU8) k = 0 := fun k hk => by
    have e : noughts.map toU8 = List.replicate 256 0 := by rw [noughts_ints, map_ints]
    rw [e, num, List.drop_replicate, List.take_replicate, Nat.min_eq_left (by omega)]
    rfl
  exact ⟨h 0 (by omega), h 8 (by omega), h 16 (by omega), h 24 (by omega), h 32 (by omega), h 40 (by omega)⟩
/-- Format. -/
theorem formats {D : DS} {first size : Int} (hd : D.down = false) (hf : D.fuse < 0) (hby : D.Byt) (hok : D.Ok) (hfit : fitsB D.blocks first size = true) (hblk : D.blocks ≤ 4096) (hr : first + 1 < D.room) :
    ∃ D', formatF D first size = (D', 0) ∧ WalI D' ⟨first, size, 1, 1, 0, [], []⟩ ∧ Strong D' ⟨first, size, 1, 1, 0, [], []⟩ ∧ Rooms D D' := by
  obtain ⟨b0, b1, b2, b3⟩ : 0 ≤ first ∧ 2 < size ∧ size ≤ D.blocks ∧ first + size ≤ D.blocks := by
    simp only [fitsB, Bool.and_eq_true, decide_eq_true_eq] at hfit; omega
  have htk : tickF D.fuse = D.fuse := by unfold tickF; rw [if_neg (by omega)]
  have hw1 := D.write_go hd (by omega) (n := first + 1) (by omega) (by omega) hr (markL 1 1 0)
  rw [htk] at hw1
  have hw2 := DS.write_go (D := { D with loose := D.loose ++ [(first + 1, markL 1 1 0)] }) hd (by show D.fuse ≠ 0; omega) (n := first) b0 (by show first < D.blocks; omega) (by show first < D.room; omega) noughts
  have hw3 := DS.sync_go (D := { D with loose := D.loose ++ [(first + 1, markL 1 1 0)] ++ [(first, noughts)] }) hd (by show D.fuse ≠ 0; omega)
  simp only [htk] at hw2 hw3
  obtain ⟨D2, hD2⟩ : ∃ D2 : DS, D2 = { D with firm := (D.loose ++ [(first + 1, markL 1 1 0)] ++ [(first, noughts)]).foldl putF D.firm, loose := [], entries := D.entries + (D.loose ++ [(first + 1, markL 1 1 0)] ++ [(first, noughts)]).length } := ⟨_, rfl⟩
  have hF : formatF D first size = (D2, 0) := by
    have hw1' : D.write (first + 1) (markL 1 1 0) = ({ D with loose := D.loose ++ [(first + 1, markL 1 1 0)] }, 0) := hw1
    unfold formatF
    rw [if_pos hfit, hw1']
    simp only [↓reduceIte]
    rw [hw2]
    simp only [↓reduceIte]
    rw [hw3, hD2]
  have hmem : ∀ x ∈ D.loose ++ [(first + 1, markL 1 1 0)] ++ [(first, noughts)], x.2.length = 256 ∧ ∃ bs, x.2 = ints bs := fun x hx => by
    rcases List.mem_append.1 hx with hx | hx
    · rcases List.mem_append.1 hx with hx | hx
      · exact ⟨hok.1 x hx, hby.loose x hx⟩
      · rw [List.mem_singleton.1 hx]; exact ⟨markL_length _ _ _, _, markL_ints _ _ _⟩
    · rw [List.mem_singleton.1 hx]; exact ⟨by simp only [noughts, List.length_replicate], _, noughts_ints⟩
  have hb : D2.blocks = D.blocks := by rw [hD2]
  have hdn : D2.down = false := by rw [hD2]; exact hd
  have hlo : D2.loose = [] := by rw [hD2]
  have hfi : ∀ n, D2.firm n = putF (putF (D.loose.foldl putF D.firm) (first + 1, markL 1 1 0)) (first, noughts) n := fun n => by
    rw [hD2]; simp only [List.foldl_append, List.foldl_cons, List.foldl_nil]
  have h1 : D2.bytes (first + 1) = (markL 1 1 0).map toU8 := by
    rw [DS.bytes_of hdn hlo (by omega) (by rw [hb]; omega), hfi]
    unfold putF; rw [if_neg (by simp; omega), if_pos rfl]; rfl
  have h0 : D2.bytes first = noughts.map toU8 := by
    rw [DS.bytes_of hdn hlo (by omega) (by rw [hb]; omega), hfi]
    unfold putF; rw [if_pos rfl]; rfl
  have hother : D2.bytes (first + ((1 + 1 : Nat) : Int) % 2) = noughts.map toU8 := by
    rw [show first + ((1 + 1 : Nat) : Int) % 2 = first by omega]; exact h0
  refine ⟨D2, hF, ⟨hdn, hlo, ?_, ?_, by rw [hb]; exact hfit, by rw [hb]; exact hblk, Nat.le_refl _, by simp, by simp, rfl, by simp; omega, ?_, fun hlk => ?_, fun i b hi => by simp at hi⟩, ⟨0, 0, ?_⟩, ?_⟩
  · rw [hD2]
    exact ⟨(fun x hx => by cases hx), puts_byt _ D.firm hby.firm fun x hx => (hmem x hx).2⟩
  · rw [hD2]
    exact ⟨(fun x hx => by cases hx), OkF.puts _ D.firm hok.2 fun x hx => (hmem x hx).1⟩
  · show MarkI (D2.bytes (first + ((1 : Nat) : Int) % 2)) 1 1 0
    rw [show first + ((1 : Nat) : Int) % 2 = first + 1 by omega, h1, markL_ints, map_ints]
    exact markB_num 1 1 0 (by omega) (by omega) (by omega)
  · have hlk' : lookB (D2.bytes (first + ((1 + 1 : Nat) : Int) % 2)) ((1 + 1) % 2) = true := hlk
    show num (D2.bytes (first + ((1 + 1 : Nat) : Int) % 2)) 0 < 1
    rw [hother, noughts_mark.1]; omega
  · show MarkI (D2.bytes (first + ((1 + 1 : Nat) : Int) % 2)) (1 - 1) 0 0
    rw [hother]
    exact noughts_mark
  · rw [hD2]; exact ⟨rfl, rfl, fun h => h⟩

/-- A Sync that finds no room. -/
theorem WalI.full {D : DS} {L : LogS} (h : WalI D L) (hf : D.fuse < 0) (hm : L.more.length ≠ 0) (ha : ((L.bytes ++ L.more).length : Int) ≤ (L.size - 2) * 256) (hn : L.number + 1 < 4294967296) (hr : (syncF D L).2.2 = 42) :
    syncF D L = (D, { L with more := [] }, 42) := by
  obtain ⟨b0, b1, b2, b3⟩ := h.bounds
  have hlen : (L.bytes ++ L.more).length = L.bytes.length + L.more.length := List.length_append
  by_cases hroom : L.first + 2 + (((L.bytes ++ L.more).length - 1) / 256 : Nat) < D.room
  · rcases h.syncs hm ha hn hroom with ⟨D', e, _⟩ | ⟨h', _⟩
    · rw [e] at hr; simp at hr
    · omega
  · obtain ⟨k, hk⟩ : ∃ k, L.count = k + 1 := ⟨L.count - 1, by unfold LogS.count; omega⟩
    have hq : L.bytes.length / 256 + k = ((L.bytes ++ L.more).length - 1) / 256 := by unfold LogS.count at hk; omega
    have hw : wdown L.first (L.bytes ++ L.more) (L.bytes.length / 256) L.count D = (D, 42) := by
      rw [hk, wdown, hq, D.write_full h.down hf (by omega) (by omega) (by omega)]
      simp
    unfold syncF
    rw [if_neg hm, hw]
    simp

end Go.Proofs.Ytcgokafhkkmaoaa
