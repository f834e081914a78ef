/- Terms for the program's functions, and that they are right: part 8 of 9. -/
import Derived.Test.YtdpfilpckndhcaaGreatDoorRf7
import Derived.Lib.ItoaNum
set_option linter.unusedSimpArgs false
set_option linter.unusedVariables false
set_option linter.unnecessarySimpa false
set_option linter.unusedSectionVars false
namespace Go.Proofs.YtdpfilpckndhcaaGreatDoor.Rf
set_option linter.unusedVariables false
set_option maxRecDepth 4000
structure TCmd where
 kind : Int
 id : Int
 src : Int
 dst : Int
 amt : Int
 deriving DecidableEq
instance : Inhabited TCmd := ⟨⟨0, 0, 0, 0, 0⟩⟩
instance : Enc TCmd := ⟨5, fun x => [i64 x.kind, i64 x.id, i64 x.src, i64 x.dst, i64 x.amt], fun _ => rfl⟩
instance {m : Nat} : Fits TCmd m := ⟨fun x => by cases m <;> rfl⟩
structure TAttr where
 seq : Int
 deps : (List Int)
 deriving DecidableEq
instance : Inhabited TAttr := ⟨⟨0, []⟩⟩
instance : Enc TAttr := ⟨2, fun x => [i64 x.seq, rL x.deps], fun _ => rfl⟩
theorem enc_TAttr (x : TAttr) : Enc.enc x = [i64 x.seq, rL x.deps] := rfl
instance {m : Nat} : Fits TAttr (m + 1) := ⟨fun x => by
 rw [enc_TAttr]
 simp only [List.all_cons, List.all_nil, Bool.and_true, Bool.and_eq_true]
 refine ⟨?_, ?_⟩
 all_goals first | rfl | exact fits_rL _⟩
structure TRow where
 ballot : Int
 vote : Int
 state : Int
 cmd : TCmd
 attr : TAttr
 deriving DecidableEq
instance : Inhabited TRow := ⟨⟨0, 0, 0, default, default⟩⟩
instance : Enc TRow := ⟨10, fun x => [i64 x.ballot, i64 x.vote, i64 x.state, i64 x.cmd.kind, i64 x.cmd.id, i64 x.cmd.src, i64 x.cmd.dst, i64 x.cmd.amt, i64 x.attr.seq, rL x.attr.deps], fun _ => rfl⟩
theorem enc_TRow (x : TRow) : Enc.enc x = [i64 x.ballot, i64 x.vote, i64 x.state, i64 x.cmd.kind, i64 x.cmd.id, i64 x.cmd.src, i64 x.cmd.dst, i64 x.cmd.amt, i64 x.attr.seq, rL x.attr.deps] := rfl
instance {m : Nat} : Fits TRow (m + 1) := ⟨fun x => by
 rw [enc_TRow]
 simp only [List.all_cons, List.all_nil, Bool.and_true, Bool.and_eq_true]
 refine ⟨?_, ?_, ?_, ?_, ?_, ?_, ?_, ?_, ?_, ?_⟩
 all_goals first | rfl | exact fits_rL _⟩
structure TTable where
 n : Int
 rows : (List (List TRow))
 deriving DecidableEq
instance : Inhabited TTable := ⟨⟨0, []⟩⟩
instance : Enc TTable := ⟨2, fun x => [i64 x.n, rL x.rows], fun _ => rfl⟩
theorem enc_TTable (x : TTable) : Enc.enc x = [i64 x.n, rL x.rows] := rfl
instance {m : Nat} : Fits TTable (m + 3) := ⟨fun x => by
 rw [enc_TTable]
 simp only [List.all_cons, List.all_nil, Bool.and_true, Bool.and_eq_true]
 refine ⟨?_, ?_⟩
 all_goals first | rfl | exact fits_rL _⟩
structure TLead where
 rep : Int
 no : Int
 ballot : Int
 phase : Int
 cmd : TCmd
 first : TAttr
 attr : TAttr
 same : Bool
 who : (List Int)
 seen : (List TRow)
 deriving DecidableEq
instance : Inhabited TLead := ⟨⟨0, 0, 0, 0, default, default, default, false, [], []⟩⟩
instance : Enc TLead := ⟨16, fun x => [i64 x.rep, i64 x.no, i64 x.ballot, i64 x.phase, i64 x.cmd.kind, i64 x.cmd.id, i64 x.cmd.src, i64 x.cmd.dst, i64 x.cmd.amt, i64 x.first.seq, rL x.first.deps, i64 x.attr.seq, rL x.attr.deps, .bool x.same, rL x.who, rL x.seen], fun _ => rfl⟩
theorem enc_TLead (x : TLead) : Enc.enc x = [i64 x.rep, i64 x.no, i64 x.ballot, i64 x.phase, i64 x.cmd.kind, i64 x.cmd.id, i64 x.cmd.src, i64 x.cmd.dst, i64 x.cmd.amt, i64 x.first.seq, rL x.first.deps, i64 x.attr.seq, rL x.attr.deps, .bool x.same, rL x.who, rL x.seen] := rfl
instance {m : Nat} : Fits TLead (m + 2) := ⟨fun x => by
 rw [enc_TLead]
 simp only [List.all_cons, List.all_nil, Bool.and_true, Bool.and_eq_true]
 refine ⟨?_, ?_, ?_, ?_, ?_, ?_, ?_, ?_, ?_, ?_, ?_, ?_, ?_, ?_, ?_, ?_⟩
 all_goals first | rfl | exact fits_rL _⟩
structure TRep where
 me : Int
 table : TTable
 leads : (List TLead)
 deriving DecidableEq
instance : Inhabited TRep := ⟨⟨0, default, []⟩⟩
instance : Enc TRep := ⟨4, fun x => [i64 x.me, i64 x.table.n, rL x.table.rows, rL x.leads], fun _ => rfl⟩
theorem enc_TRep (x : TRep) : Enc.enc x = [i64 x.me, i64 x.table.n, rL x.table.rows, rL x.leads] := rfl
instance {m : Nat} : Fits TRep (m + 3) := ⟨fun x => by
 rw [enc_TRep]
 simp only [List.all_cons, List.all_nil, Bool.and_true, Bool.and_eq_true]
 refine ⟨?_, ?_, ?_, ?_⟩
 all_goals first | rfl | exact fits_rL _⟩
structure TMsg where
 kind : Int
 src : Int
 dst : Int
 rep : Int
 no : Int
 ballot : Int
 vote : Int
 state : Int
 cmd : TCmd
 attr : TAttr
 deriving DecidableEq
instance : Inhabited TMsg := ⟨⟨0, 0, 0, 0, 0, 0, 0, 0, default, default⟩⟩
instance : Enc TMsg := ⟨15, fun x => [i64 x.kind, i64 x.src, i64 x.dst, i64 x.rep, i64 x.no, i64 x.ballot, i64 x.vote, i64 x.state, i64 x.cmd.kind, i64 x.cmd.id, i64 x.cmd.src, i64 x.cmd.dst, i64 x.cmd.amt, i64 x.attr.seq, rL x.attr.deps], fun _ => rfl⟩
theorem enc_TMsg (x : TMsg) : Enc.enc x = [i64 x.kind, i64 x.src, i64 x.dst, i64 x.rep, i64 x.no, i64 x.ballot, i64 x.vote, i64 x.state, i64 x.cmd.kind, i64 x.cmd.id, i64 x.cmd.src, i64 x.cmd.dst, i64 x.cmd.amt, i64 x.attr.seq, rL x.attr.deps] := rfl
instance {m : Nat} : Fits TMsg (m + 1) := ⟨fun x => by
 rw [enc_TMsg]
 simp only [List.all_cons, List.all_nil, Bool.and_true, Bool.and_eq_true]
 refine ⟨?_, ?_, ?_, ?_, ?_, ?_, ?_, ?_, ?_, ?_, ?_, ?_, ?_, ?_, ?_⟩
 all_goals first | rfl | exact fits_rL _⟩
structure TAsked where
 rep : Int
 no : Int
 cmd : TCmd
 deriving DecidableEq
instance : Inhabited TAsked := ⟨⟨0, 0, default⟩⟩
instance : Enc TAsked := ⟨7, fun x => [i64 x.rep, i64 x.no, i64 x.cmd.kind, i64 x.cmd.id, i64 x.cmd.src, i64 x.cmd.dst, i64 x.cmd.amt], fun _ => rfl⟩
instance {m : Nat} : Fits TAsked m := ⟨fun x => by cases m <;> rfl⟩
structure TNet where
 reps : (List TRep)
 bag : (List TMsg)
 asked : (List TAsked)
 deriving DecidableEq
instance : Inhabited TNet := ⟨⟨[], [], []⟩⟩
instance : Enc TNet := ⟨3, fun x => [rL x.reps, rL x.bag, rL x.asked], fun _ => rfl⟩
theorem enc_TNet (x : TNet) : Enc.enc x = [rL x.reps, rL x.bag, rL x.asked] := rfl
instance {m : Nat} : Fits TNet (m + 4) := ⟨fun x => by
 rw [enc_TNet]
 simp only [List.all_cons, List.all_nil, Bool.and_true, Bool.and_eq_true]
 refine ⟨?_, ?_, ?_⟩
 all_goals first | rfl | exact fits_rL _⟩
structure TTold where
 code : Int
 sum : Int
 deriving DecidableEq
instance : Inhabited TTold := ⟨⟨0, 0⟩⟩
instance : Enc TTold := ⟨2, fun x => [i64 x.code, i64 x.sum], fun _ => rfl⟩
instance {m : Nat} : Fits TTold m := ⟨fun x => by cases m <;> rfl⟩
structure TEntry where
 rep : Int
 no : Int
 cmd : TCmd
 told : TTold
 deriving DecidableEq
instance : Inhabited TEntry := ⟨⟨0, 0, default, default⟩⟩
instance : Enc TEntry := ⟨9, fun x => [i64 x.rep, i64 x.no, i64 x.cmd.kind, i64 x.cmd.id, i64 x.cmd.src, i64 x.cmd.dst, i64 x.cmd.amt, i64 x.told.code, i64 x.told.sum], fun _ => rfl⟩
instance {m : Nat} : Fits TEntry m := ⟨fun x => by cases m <;> rfl⟩
structure TClerk where
 sums : (List Int)
 last : (List Int)
 told : (List TTold)
 deriving DecidableEq
instance : Inhabited TClerk := ⟨⟨[], [], []⟩⟩
instance : Enc TClerk := ⟨3, fun x => [rL x.sums, rL x.last, rL x.told], fun _ => rfl⟩
theorem enc_TClerk (x : TClerk) : Enc.enc x = [rL x.sums, rL x.last, rL x.told] := rfl
instance {m : Nat} : Fits TClerk (m + 1) := ⟨fun x => by
 rw [enc_TClerk]
 simp only [List.all_cons, List.all_nil, Bool.and_true, Bool.and_eq_true]
 refine ⟨?_, ?_, ?_⟩
 all_goals first | rfl | exact fits_rL _⟩
structure TAsk where
 client : Int
 no : Int
 cmd : TCmd
 deriving DecidableEq
instance : Inhabited TAsk := ⟨⟨0, 0, default⟩⟩
instance : Enc TAsk := ⟨7, fun x => [i64 x.client, i64 x.no, i64 x.cmd.kind, i64 x.cmd.id, i64 x.cmd.src, i64 x.cmd.dst, i64 x.cmd.amt], fun _ => rfl⟩
instance {m : Nat} : Fits TAsk m := ⟨fun x => by cases m <;> rfl⟩
theorem S_eta : (∀ x : TCmd, TCmd.mk x.kind x.id x.src x.dst x.amt = x) /\ (∀ x : TAttr, TAttr.mk x.seq x.deps = x) /\ (∀ x : TRow, TRow.mk x.ballot x.vote x.state x.cmd x.attr = x) /\ (∀ x : TTable, TTable.mk x.n x.rows = x) /\ (∀ x : TLead, TLead.mk x.rep x.no x.ballot x.phase x.cmd x.first x.attr x.same x.who x.seen = x) /\ (∀ x : TRep, TRep.mk x.me x.table x.leads = x) /\ (∀ x : TMsg, TMsg.mk x.kind x.src x.dst x.rep x.no x.ballot x.vote x.state x.cmd x.attr = x) /\ (∀ x : TAsked, TAsked.mk x.rep x.no x.cmd = x) /\ (∀ x : TNet, TNet.mk x.reps x.bag x.asked = x) /\ (∀ x : TTold, TTold.mk x.code x.sum = x) /\ (∀ x : TEntry, TEntry.mk x.rep x.no x.cmd x.told = x) /\ (∀ x : TClerk, TClerk.mk x.sums x.last x.told = x) /\ (∀ x : TAsk, TAsk.mk x.client x.no x.cmd = x) :=
 ⟨fun _ => rfl, fun _ => rfl, fun _ => rfl, fun _ => rfl, fun _ => rfl, fun _ => rfl, fun _ => rfl, fun _ => rfl, fun _ => rfl, fun _ => rfl, fun _ => rfl, fun _ => rfl, fun _ => rfl⟩
theorem S_row : (∀ {xs : List Int} {k : Int}, InB xs k -> (Prim.row 1 0 [true]).run [rL xs, i64 k] = some [i64 (atI xs k)]) /\
  (∀ {xs : List (List UInt8)} {k : Int}, InB xs k -> (Prim.row 1 0 [true]).run [rL xs, i64 k] = some [.str (atI xs k)]) /\
  (∀ {xs : List (List Int)} {k : Int}, InB xs k -> (Prim.row 1 0 [false]).run [rL xs, i64 k] = some [rL (atI xs k)]) /\
  (∀ {xs : List (List TRow)} {k : Int}, InB xs k -> (Prim.row 1 0 [false]).run [rL xs, i64 k] = some [rL (atI xs k)]) /\
  (∀ {xs : List (List (List Int))} {k : Int}, InB xs k -> (Prim.row 1 0 [false]).run [rL xs, i64 k] = some [rL (atI xs k)]) /\
  (∀ {xs : List TCmd} {k : Int}, InB xs k -> (Prim.row 5 0 [true, true, true, true, true]).run [rL xs, i64 k] = some [i64 (atI xs k).kind, i64 (atI xs k).id, i64 (atI xs k).src, i64 (atI xs k).dst, i64 (atI xs k).amt]) /\
  (∀ {xs : List TRow} {k : Int}, InB xs k -> (Prim.row 10 0 [true, true, true, true, true, true, true, true, true, false]).run [rL xs, i64 k] = some [i64 (atI xs k).ballot, i64 (atI xs k).vote, i64 (atI xs k).state, i64 (atI xs k).cmd.kind, i64 (atI xs k).cmd.id, i64 (atI xs k).cmd.src, i64 (atI xs k).cmd.dst, i64 (atI xs k).cmd.amt, i64 (atI xs k).attr.seq, rL (atI xs k).attr.deps]) /\
  (∀ {xs : List TRow} {k : Int}, InB xs k -> (Prim.row 10 0 [true]).run [rL xs, i64 k] = some [i64 (atI xs k).ballot]) /\
  (∀ {xs : List TRow} {k : Int}, InB xs k -> (Prim.row 10 1 [true]).run [rL xs, i64 k] = some [i64 (atI xs k).vote]) /\
  (∀ {xs : List TRow} {k : Int}, InB xs k -> (Prim.row 10 2 [true]).run [rL xs, i64 k] = some [i64 (atI xs k).state]) /\
  (∀ {xs : List TRow} {k : Int}, InB xs k -> (Prim.row 10 3 [true, true, true, true, true]).run [rL xs, i64 k] = some [i64 (atI xs k).cmd.kind, i64 (atI xs k).cmd.id, i64 (atI xs k).cmd.src, i64 (atI xs k).cmd.dst, i64 (atI xs k).cmd.amt]) /\
  (∀ {xs : List TRow} {k : Int}, InB xs k -> (Prim.row 10 3 [true]).run [rL xs, i64 k] = some [i64 (atI xs k).cmd.kind]) /\
  (∀ {xs : List TRow} {k : Int}, InB xs k -> (Prim.row 10 4 [true]).run [rL xs, i64 k] = some [i64 (atI xs k).cmd.id]) /\
  (∀ {xs : List TRow} {k : Int}, InB xs k -> (Prim.row 10 5 [true]).run [rL xs, i64 k] = some [i64 (atI xs k).cmd.src]) /\
  (∀ {xs : List TRow} {k : Int}, InB xs k -> (Prim.row 10 6 [true]).run [rL xs, i64 k] = some [i64 (atI xs k).cmd.dst]) /\
  (∀ {xs : List TRow} {k : Int}, InB xs k -> (Prim.row 10 7 [true]).run [rL xs, i64 k] = some [i64 (atI xs k).cmd.amt]) /\
  (∀ {xs : List TRow} {k : Int}, InB xs k -> (Prim.row 10 8 [true, false]).run [rL xs, i64 k] = some [i64 (atI xs k).attr.seq, rL (atI xs k).attr.deps]) /\
  (∀ {xs : List TRow} {k : Int}, InB xs k -> (Prim.row 10 8 [true]).run [rL xs, i64 k] = some [i64 (atI xs k).attr.seq]) /\
  (∀ {xs : List TRow} {k : Int}, InB xs k -> (Prim.row 10 9 [false]).run [rL xs, i64 k] = some [rL (atI xs k).attr.deps]) /\
  (∀ {xs : List TTable} {k : Int}, InB xs k -> (Prim.row 2 0 [true]).run [rL xs, i64 k] = some [i64 (atI xs k).n]) /\
  (∀ {xs : List TLead} {k : Int}, InB xs k -> (Prim.row 16 0 [true, true, true, true, true, true, true, true, true, true, false, true, false, true, false, false]).run [rL xs, i64 k] = some [i64 (atI xs k).rep, i64 (atI xs k).no, i64 (atI xs k).ballot, i64 (atI xs k).phase, i64 (atI xs k).cmd.kind, i64 (atI xs k).cmd.id, i64 (atI xs k).cmd.src, i64 (atI xs k).cmd.dst, i64 (atI xs k).cmd.amt, i64 (atI xs k).first.seq, rL (atI xs k).first.deps, i64 (atI xs k).attr.seq, rL (atI xs k).attr.deps, .bool (atI xs k).same, rL (atI xs k).who, rL (atI xs k).seen]) /\
  (∀ {xs : List TLead} {k : Int}, InB xs k -> (Prim.row 16 0 [true]).run [rL xs, i64 k] = some [i64 (atI xs k).rep]) /\
  (∀ {xs : List TLead} {k : Int}, InB xs k -> (Prim.row 16 1 [true]).run [rL xs, i64 k] = some [i64 (atI xs k).no]) /\
  (∀ {xs : List TLead} {k : Int}, InB xs k -> (Prim.row 16 10 [false]).run [rL xs, i64 k] = some [rL (atI xs k).first.deps]) /\
  (∀ {xs : List TLead} {k : Int}, InB xs k -> (Prim.row 16 11 [true]).run [rL xs, i64 k] = some [i64 (atI xs k).attr.seq]) /\
  (∀ {xs : List TLead} {k : Int}, InB xs k -> (Prim.row 16 12 [false]).run [rL xs, i64 k] = some [rL (atI xs k).attr.deps]) /\
  (∀ {xs : List TLead} {k : Int}, InB xs k -> (Prim.row 16 13 [true]).run [rL xs, i64 k] = some [.bool (atI xs k).same]) /\
  (∀ {xs : List TLead} {k : Int}, InB xs k -> (Prim.row 16 14 [false]).run [rL xs, i64 k] = some [rL (atI xs k).who]) /\
  (∀ {xs : List TLead} {k : Int}, InB xs k -> (Prim.row 16 15 [false]).run [rL xs, i64 k] = some [rL (atI xs k).seen]) /\
  (∀ {xs : List TLead} {k : Int}, InB xs k -> (Prim.row 16 2 [true]).run [rL xs, i64 k] = some [i64 (atI xs k).ballot]) /\
  (∀ {xs : List TLead} {k : Int}, InB xs k -> (Prim.row 16 3 [true]).run [rL xs, i64 k] = some [i64 (atI xs k).phase]) /\
  (∀ {xs : List TLead} {k : Int}, InB xs k -> (Prim.row 16 4 [true]).run [rL xs, i64 k] = some [i64 (atI xs k).cmd.kind]) /\
  (∀ {xs : List TLead} {k : Int}, InB xs k -> (Prim.row 16 5 [true]).run [rL xs, i64 k] = some [i64 (atI xs k).cmd.id]) /\
  (∀ {xs : List TLead} {k : Int}, InB xs k -> (Prim.row 16 6 [true]).run [rL xs, i64 k] = some [i64 (atI xs k).cmd.src]) /\
  (∀ {xs : List TLead} {k : Int}, InB xs k -> (Prim.row 16 7 [true]).run [rL xs, i64 k] = some [i64 (atI xs k).cmd.dst]) /\
  (∀ {xs : List TLead} {k : Int}, InB xs k -> (Prim.row 16 8 [true]).run [rL xs, i64 k] = some [i64 (atI xs k).cmd.amt]) /\
  (∀ {xs : List TLead} {k : Int}, InB xs k -> (Prim.row 16 9 [true]).run [rL xs, i64 k] = some [i64 (atI xs k).first.seq]) /\
  (∀ {xs : List TRep} {k : Int}, InB xs k -> (Prim.row 4 0 [true, true, false, false]).run [rL xs, i64 k] = some [i64 (atI xs k).me, i64 (atI xs k).table.n, rL (atI xs k).table.rows, rL (atI xs k).leads]) /\
  (∀ {xs : List TRep} {k : Int}, InB xs k -> (Prim.row 4 1 [true, false]).run [rL xs, i64 k] = some [i64 (atI xs k).table.n, rL (atI xs k).table.rows]) /\
  (∀ {xs : List TRep} {k : Int}, InB xs k -> (Prim.row 4 2 [false]).run [rL xs, i64 k] = some [rL (atI xs k).table.rows]) /\
  (∀ {xs : List TRep} {k : Int}, InB xs k -> (Prim.row 4 3 [false]).run [rL xs, i64 k] = some [rL (atI xs k).leads]) /\
  (∀ {xs : List TMsg} {k : Int}, InB xs k -> (Prim.row 15 0 [true, true, true, true, true, true, true, true, true, true, true, true, true, true, false]).run [rL xs, i64 k] = some [i64 (atI xs k).kind, i64 (atI xs k).src, i64 (atI xs k).dst, i64 (atI xs k).rep, i64 (atI xs k).no, i64 (atI xs k).ballot, i64 (atI xs k).vote, i64 (atI xs k).state, i64 (atI xs k).cmd.kind, i64 (atI xs k).cmd.id, i64 (atI xs k).cmd.src, i64 (atI xs k).cmd.dst, i64 (atI xs k).cmd.amt, i64 (atI xs k).attr.seq, rL (atI xs k).attr.deps]) /\
  (∀ {xs : List TMsg} {k : Int}, InB xs k -> (Prim.row 15 0 [true]).run [rL xs, i64 k] = some [i64 (atI xs k).kind]) /\
  (∀ {xs : List TMsg} {k : Int}, InB xs k -> (Prim.row 15 1 [true]).run [rL xs, i64 k] = some [i64 (atI xs k).src]) /\
  (∀ {xs : List TMsg} {k : Int}, InB xs k -> (Prim.row 15 10 [true]).run [rL xs, i64 k] = some [i64 (atI xs k).cmd.src]) /\
  (∀ {xs : List TMsg} {k : Int}, InB xs k -> (Prim.row 15 11 [true]).run [rL xs, i64 k] = some [i64 (atI xs k).cmd.dst]) /\
  (∀ {xs : List TMsg} {k : Int}, InB xs k -> (Prim.row 15 12 [true]).run [rL xs, i64 k] = some [i64 (atI xs k).cmd.amt]) /\
  (∀ {xs : List TMsg} {k : Int}, InB xs k -> (Prim.row 15 13 [true]).run [rL xs, i64 k] = some [i64 (atI xs k).attr.seq]) /\
  (∀ {xs : List TMsg} {k : Int}, InB xs k -> (Prim.row 15 14 [false]).run [rL xs, i64 k] = some [rL (atI xs k).attr.deps]) /\
  (∀ {xs : List TMsg} {k : Int}, InB xs k -> (Prim.row 15 2 [true]).run [rL xs, i64 k] = some [i64 (atI xs k).dst]) /\
  (∀ {xs : List TMsg} {k : Int}, InB xs k -> (Prim.row 15 3 [true]).run [rL xs, i64 k] = some [i64 (atI xs k).rep]) /\
  (∀ {xs : List TMsg} {k : Int}, InB xs k -> (Prim.row 15 4 [true]).run [rL xs, i64 k] = some [i64 (atI xs k).no]) /\
  (∀ {xs : List TMsg} {k : Int}, InB xs k -> (Prim.row 15 5 [true]).run [rL xs, i64 k] = some [i64 (atI xs k).ballot]) /\
  (∀ {xs : List TMsg} {k : Int}, InB xs k -> (Prim.row 15 6 [true]).run [rL xs, i64 k] = some [i64 (atI xs k).vote]) /\
  (∀ {xs : List TMsg} {k : Int}, InB xs k -> (Prim.row 15 7 [true]).run [rL xs, i64 k] = some [i64 (atI xs k).state]) /\
  (∀ {xs : List TMsg} {k : Int}, InB xs k -> (Prim.row 15 8 [true]).run [rL xs, i64 k] = some [i64 (atI xs k).cmd.kind]) /\
  (∀ {xs : List TMsg} {k : Int}, InB xs k -> (Prim.row 15 9 [true]).run [rL xs, i64 k] = some [i64 (atI xs k).cmd.id]) /\
  (∀ {xs : List TAsked} {k : Int}, InB xs k -> (Prim.row 7 0 [true, true, true, true, true, true, true]).run [rL xs, i64 k] = some [i64 (atI xs k).rep, i64 (atI xs k).no, i64 (atI xs k).cmd.kind, i64 (atI xs k).cmd.id, i64 (atI xs k).cmd.src, i64 (atI xs k).cmd.dst, i64 (atI xs k).cmd.amt]) /\
  (∀ {xs : List TAsked} {k : Int}, InB xs k -> (Prim.row 7 0 [true]).run [rL xs, i64 k] = some [i64 (atI xs k).rep]) /\
  (∀ {xs : List TAsked} {k : Int}, InB xs k -> (Prim.row 7 1 [true]).run [rL xs, i64 k] = some [i64 (atI xs k).no]) /\
  (∀ {xs : List TAsked} {k : Int}, InB xs k -> (Prim.row 7 2 [true, true, true, true, true]).run [rL xs, i64 k] = some [i64 (atI xs k).cmd.kind, i64 (atI xs k).cmd.id, i64 (atI xs k).cmd.src, i64 (atI xs k).cmd.dst, i64 (atI xs k).cmd.amt]) /\
  (∀ {xs : List TAsked} {k : Int}, InB xs k -> (Prim.row 7 2 [true]).run [rL xs, i64 k] = some [i64 (atI xs k).cmd.kind]) /\
  (∀ {xs : List TAsked} {k : Int}, InB xs k -> (Prim.row 7 3 [true]).run [rL xs, i64 k] = some [i64 (atI xs k).cmd.id]) /\
  (∀ {xs : List TAsked} {k : Int}, InB xs k -> (Prim.row 7 4 [true]).run [rL xs, i64 k] = some [i64 (atI xs k).cmd.src]) /\
  (∀ {xs : List TAsked} {k : Int}, InB xs k -> (Prim.row 7 5 [true]).run [rL xs, i64 k] = some [i64 (atI xs k).cmd.dst]) /\
  (∀ {xs : List TAsked} {k : Int}, InB xs k -> (Prim.row 7 6 [true]).run [rL xs, i64 k] = some [i64 (atI xs k).cmd.amt]) /\
  (∀ {xs : List TTold} {k : Int}, InB xs k -> (Prim.row 2 0 [true, true]).run [rL xs, i64 k] = some [i64 (atI xs k).code, i64 (atI xs k).sum]) /\
  (∀ {xs : List TTold} {k : Int}, InB xs k -> (Prim.row 2 0 [true]).run [rL xs, i64 k] = some [i64 (atI xs k).code]) /\
  (∀ {xs : List TTold} {k : Int}, InB xs k -> (Prim.row 2 1 [true]).run [rL xs, i64 k] = some [i64 (atI xs k).sum]) /\
  (∀ {xs : List TEntry} {k : Int}, InB xs k -> (Prim.row 9 0 [true, true, true, true, true, true, true, true, true]).run [rL xs, i64 k] = some [i64 (atI xs k).rep, i64 (atI xs k).no, i64 (atI xs k).cmd.kind, i64 (atI xs k).cmd.id, i64 (atI xs k).cmd.src, i64 (atI xs k).cmd.dst, i64 (atI xs k).cmd.amt, i64 (atI xs k).told.code, i64 (atI xs k).told.sum]) /\
  (∀ {xs : List TEntry} {k : Int}, InB xs k -> (Prim.row 9 0 [true]).run [rL xs, i64 k] = some [i64 (atI xs k).rep]) /\
  (∀ {xs : List TEntry} {k : Int}, InB xs k -> (Prim.row 9 1 [true]).run [rL xs, i64 k] = some [i64 (atI xs k).no]) /\
  (∀ {xs : List TEntry} {k : Int}, InB xs k -> (Prim.row 9 2 [true]).run [rL xs, i64 k] = some [i64 (atI xs k).cmd.kind]) /\
  (∀ {xs : List TEntry} {k : Int}, InB xs k -> (Prim.row 9 3 [true]).run [rL xs, i64 k] = some [i64 (atI xs k).cmd.id]) /\
  (∀ {xs : List TEntry} {k : Int}, InB xs k -> (Prim.row 9 4 [true]).run [rL xs, i64 k] = some [i64 (atI xs k).cmd.src]) /\
  (∀ {xs : List TEntry} {k : Int}, InB xs k -> (Prim.row 9 5 [true]).run [rL xs, i64 k] = some [i64 (atI xs k).cmd.dst]) /\
  (∀ {xs : List TEntry} {k : Int}, InB xs k -> (Prim.row 9 6 [true]).run [rL xs, i64 k] = some [i64 (atI xs k).cmd.amt]) /\
  (∀ {xs : List TEntry} {k : Int}, InB xs k -> (Prim.row 9 7 [true, true]).run [rL xs, i64 k] = some [i64 (atI xs k).told.code, i64 (atI xs k).told.sum]) /\
  (∀ {xs : List TEntry} {k : Int}, InB xs k -> (Prim.row 9 7 [true]).run [rL xs, i64 k] = some [i64 (atI xs k).told.code]) /\
  (∀ {xs : List TEntry} {k : Int}, InB xs k -> (Prim.row 9 8 [true]).run [rL xs, i64 k] = some [i64 (atI xs k).told.sum]) /\
  (∀ {xs : List TAsk} {k : Int}, InB xs k -> (Prim.row 7 0 [true, true, true, true, true, true, true]).run [rL xs, i64 k] = some [i64 (atI xs k).client, i64 (atI xs k).no, i64 (atI xs k).cmd.kind, i64 (atI xs k).cmd.id, i64 (atI xs k).cmd.src, i64 (atI xs k).cmd.dst, i64 (atI xs k).cmd.amt]) /\
  (∀ {xs : List TAsk} {k : Int}, InB xs k -> (Prim.row 7 0 [true]).run [rL xs, i64 k] = some [i64 (atI xs k).client]) /\
  (∀ {xs : List TAsk} {k : Int}, InB xs k -> (Prim.row 7 1 [true]).run [rL xs, i64 k] = some [i64 (atI xs k).no]) /\
  (∀ {xs : List TAsk} {k : Int}, InB xs k -> (Prim.row 7 2 [true, true, true, true, true]).run [rL xs, i64 k] = some [i64 (atI xs k).cmd.kind, i64 (atI xs k).cmd.id, i64 (atI xs k).cmd.src, i64 (atI xs k).cmd.dst, i64 (atI xs k).cmd.amt]) /\
  (∀ {xs : List TAsk} {k : Int}, InB xs k -> (Prim.row 7 2 [true]).run [rL xs, i64 k] = some [i64 (atI xs k).cmd.kind]) /\
  (∀ {xs : List TAsk} {k : Int}, InB xs k -> (Prim.row 7 3 [true]).run [rL xs, i64 k] = some [i64 (atI xs k).cmd.id]) /\
  (∀ {xs : List TAsk} {k : Int}, InB xs k -> (Prim.row 7 4 [true]).run [rL xs, i64 k] = some [i64 (atI xs k).cmd.src]) /\
  (∀ {xs : List TAsk} {k : Int}, InB xs k -> (Prim.row 7 5 [true]).run [rL xs, i64 k] = some [i64 (atI xs k).cmd.dst]) /\
  (∀ {xs : List TAsk} {k : Int}, InB xs k -> (Prim.row 7 6 [true]).run [rL xs, i64 k] = some [i64 (atI xs k).cmd.amt]) :=
 ⟨fun h => (rL_row rfl h),
  fun h => (rL_row rfl h),
  fun h => (rL_row rfl h),
  fun h => (rL_row rfl h),
  fun h => (rL_row rfl h),
  fun h => (rL_row rfl h),
  fun h => (rL_row rfl h),
  fun h => (rL_row rfl h),
  fun h => (rL_row rfl h),
  fun h => (rL_row rfl h),
  fun h => (rL_row rfl h),
  fun h => (rL_row rfl h),
  fun h => (rL_row rfl h),
  fun h => (rL_row rfl h),
  fun h => (rL_row rfl h),
  fun h => (rL_row rfl h),
  fun h => (rL_row rfl h),
  fun h => (rL_row rfl h),
  fun h => (rL_row rfl h),
  fun h => (rL_row rfl h),
  fun h => (rL_row rfl h),
  fun h => (rL_row rfl h),
  fun h => (rL_row rfl h),
  fun h => (rL_row rfl h),
  fun h => (rL_row rfl h),
  fun h => (rL_row rfl h),
  fun h => (rL_row rfl h),
  fun h => (rL_row rfl h),
  fun h => (rL_row rfl h),
  fun h => (rL_row rfl h),
  fun h => (rL_row rfl h),
  fun h => (rL_row rfl h),
  fun h => (rL_row rfl h),
  fun h => (rL_row rfl h),
  fun h => (rL_row rfl h),
  fun h => (rL_row rfl h),
  fun h => (rL_row rfl h),
  fun h => (rL_row rfl h),
  fun h => (rL_row rfl h),
  fun h => (rL_row rfl h),
  fun h => (rL_row rfl h),
  fun h => (rL_row rfl h),
  fun h => (rL_row rfl h),
  fun h => (rL_row rfl h),
  fun h => (rL_row rfl h),
  fun h => (rL_row rfl h),
  fun h => (rL_row rfl h),
  fun h => (rL_row rfl h),
  fun h => (rL_row rfl h),
  fun h => (rL_row rfl h),
  fun h => (rL_row rfl h),
  fun h => (rL_row rfl h),
  fun h => (rL_row rfl h),
  fun h => (rL_row rfl h),
  fun h => (rL_row rfl h),
  fun h => (rL_row rfl h),
  fun h => (rL_row rfl h),
  fun h => (rL_row rfl h),
  fun h => (rL_row rfl h),
  fun h => (rL_row rfl h),
  fun h => (rL_row rfl h),
  fun h => (rL_row rfl h),
  fun h => (rL_row rfl h),
  fun h => (rL_row rfl h),
  fun h => (rL_row rfl h),
  fun h => (rL_row rfl h),
  fun h => (rL_row rfl h),
  fun h => (rL_row rfl h),
  fun h => (rL_row rfl h),
  fun h => (rL_row rfl h),
  fun h => (rL_row rfl h),
  fun h => (rL_row rfl h),
  fun h => (rL_row rfl h),
  fun h => (rL_row rfl h),
  fun h => (rL_row rfl h),
  fun h => (rL_row rfl h),
  fun h => (rL_row rfl h),
  fun h => (rL_row rfl h),
  fun h => (rL_row rfl h),
  fun h => (rL_row rfl h),
  fun h => (rL_row rfl h),
  fun h => (rL_row rfl h),
  fun h => (rL_row rfl h),
  fun h => (rL_row rfl h),
  fun h => (rL_row rfl h),
  fun h => (rL_row rfl h),
  fun h => (rL_row rfl h),
  fun h => (rL_row rfl h),
  fun h => (rL_row rfl h)⟩
theorem S_set : (∀ {xs : List Int} {k : Int} {v : Int}, InB xs k -> (Prim.set 1 0 1).run [rL xs, i64 k, i64 v] = some [rL (setI xs k v)]) /\
  (∀ {xs : List (List UInt8)} {k : Int} {v : (List UInt8)}, InB xs k -> (Prim.set 1 0 1).run [rL xs, i64 k, .str v] = some [rL (setI xs k v)]) /\
  (∀ {xs : List (List Int)} {k : Int} {v : (List Int)}, InB xs k -> (Prim.set 1 0 1).run [rL xs, i64 k, rL v] = some [rL (setI xs k v)]) /\
  (∀ {xs : List (List TRow)} {k : Int} {v : (List TRow)}, InB xs k -> (Prim.set 1 0 1).run [rL xs, i64 k, rL v] = some [rL (setI xs k v)]) /\
  (∀ {xs : List (List (List Int))} {k : Int} {v : (List (List Int))}, InB xs k -> (Prim.set 1 0 1).run [rL xs, i64 k, rL v] = some [rL (setI xs k v)]) /\
  (∀ {xs : List TRow} {k : Int} {v : Int}, InB xs k -> (Prim.set 10 0 1).run [rL xs, i64 k, i64 v] = some [rL (setI xs k { (atI xs k) with ballot := v })]) /\
  (∀ {xs : List TRow} {k : Int} {v_ballot v_vote v_state v_cmd_kind v_cmd_id v_cmd_src v_cmd_dst v_cmd_amt v_attr_seq : Int} {v_attr_deps : (List Int)}, InB xs k -> (Prim.set 10 0 10).run [rL xs, i64 k, i64 v_ballot, i64 v_vote, i64 v_state, i64 v_cmd_kind, i64 v_cmd_id, i64 v_cmd_src, i64 v_cmd_dst, i64 v_cmd_amt, i64 v_attr_seq, rL v_attr_deps] = some [rL (setI xs k ⟨v_ballot, v_vote, v_state, ⟨v_cmd_kind, v_cmd_id, v_cmd_src, v_cmd_dst, v_cmd_amt⟩, ⟨v_attr_seq, v_attr_deps⟩⟩)]) /\
  (∀ {xs : List TRow} {k : Int} {v : Int}, InB xs k -> (Prim.set 10 1 1).run [rL xs, i64 k, i64 v] = some [rL (setI xs k { (atI xs k) with vote := v })]) /\
  (∀ {xs : List TRow} {k : Int} {v : Int}, InB xs k -> (Prim.set 10 2 1).run [rL xs, i64 k, i64 v] = some [rL (setI xs k { (atI xs k) with state := v })]) /\
  (∀ {xs : List TRow} {k : Int} {v : Int}, InB xs k -> (Prim.set 10 3 1).run [rL xs, i64 k, i64 v] = some [rL (setI xs k { (atI xs k) with cmd := { (atI xs k).cmd with kind := v } })]) /\
  (∀ {xs : List TRow} {k : Int} {v : Int}, InB xs k -> (Prim.set 10 4 1).run [rL xs, i64 k, i64 v] = some [rL (setI xs k { (atI xs k) with cmd := { (atI xs k).cmd with id := v } })]) /\
  (∀ {xs : List TRow} {k : Int} {v : Int}, InB xs k -> (Prim.set 10 5 1).run [rL xs, i64 k, i64 v] = some [rL (setI xs k { (atI xs k) with cmd := { (atI xs k).cmd with src := v } })]) /\
  (∀ {xs : List TRow} {k : Int} {v : Int}, InB xs k -> (Prim.set 10 6 1).run [rL xs, i64 k, i64 v] = some [rL (setI xs k { (atI xs k) with cmd := { (atI xs k).cmd with dst := v } })]) /\
  (∀ {xs : List TRow} {k : Int} {v : Int}, InB xs k -> (Prim.set 10 7 1).run [rL xs, i64 k, i64 v] = some [rL (setI xs k { (atI xs k) with cmd := { (atI xs k).cmd with amt := v } })]) /\
  (∀ {xs : List TRow} {k : Int} {v : Int}, InB xs k -> (Prim.set 10 8 1).run [rL xs, i64 k, i64 v] = some [rL (setI xs k { (atI xs k) with attr := { (atI xs k).attr with seq := v } })]) /\
  (∀ {xs : List TRow} {k : Int} {v : (List Int)}, InB xs k -> (Prim.set 10 9 1).run [rL xs, i64 k, rL v] = some [rL (setI xs k { (atI xs k) with attr := { (atI xs k).attr with deps := v } })]) /\
  (∀ {xs : List TTable} {k : Int} {v : Int}, InB xs k -> (Prim.set 2 0 1).run [rL xs, i64 k, i64 v] = some [rL (setI xs k { (atI xs k) with n := v })]) /\
  (∀ {xs : List TTable} {k : Int} {v_n : Int} {v_rows : (List (List TRow))}, InB xs k -> (Prim.set 2 0 2).run [rL xs, i64 k, i64 v_n, rL v_rows] = some [rL (setI xs k ⟨v_n, v_rows⟩)]) /\
  (∀ {xs : List TTable} {k : Int} {v : (List (List TRow))}, InB xs k -> (Prim.set 2 1 1).run [rL xs, i64 k, rL v] = some [rL (setI xs k { (atI xs k) with rows := v })]) /\
  (∀ {xs : List TLead} {k : Int} {v : Int}, InB xs k -> (Prim.set 16 0 1).run [rL xs, i64 k, i64 v] = some [rL (setI xs k { (atI xs k) with rep := v })]) /\
  (∀ {xs : List TLead} {k : Int} {v_rep v_no v_ballot v_phase v_cmd_kind v_cmd_id v_cmd_src v_cmd_dst v_cmd_amt v_first_seq : Int} {v_first_deps : (List Int)} {v_attr_seq : Int} {v_attr_deps : (List Int)} {v_same : Bool} {v_who : (List Int)} {v_seen : (List TRow)}, InB xs k -> (Prim.set 16 0 16).run [rL xs, i64 k, i64 v_rep, i64 v_no, i64 v_ballot, i64 v_phase, i64 v_cmd_kind, i64 v_cmd_id, i64 v_cmd_src, i64 v_cmd_dst, i64 v_cmd_amt, i64 v_first_seq, rL v_first_deps, i64 v_attr_seq, rL v_attr_deps, .bool v_same, rL v_who, rL v_seen] = some [rL (setI xs k ⟨v_rep, v_no, v_ballot, v_phase, ⟨v_cmd_kind, v_cmd_id, v_cmd_src, v_cmd_dst, v_cmd_amt⟩, ⟨v_first_seq, v_first_deps⟩, ⟨v_attr_seq, v_attr_deps⟩, v_same, v_who, v_seen⟩)]) /\
  (∀ {xs : List TLead} {k : Int} {v : Int}, InB xs k -> (Prim.set 16 1 1).run [rL xs, i64 k, i64 v] = some [rL (setI xs k { (atI xs k) with no := v })]) /\
  (∀ {xs : List TLead} {k : Int} {v : (List Int)}, InB xs k -> (Prim.set 16 10 1).run [rL xs, i64 k, rL v] = some [rL (setI xs k { (atI xs k) with first := { (atI xs k).first with deps := v } })]) /\
  (∀ {xs : List TLead} {k : Int} {v : Int}, InB xs k -> (Prim.set 16 11 1).run [rL xs, i64 k, i64 v] = some [rL (setI xs k { (atI xs k) with attr := { (atI xs k).attr with seq := v } })]) /\
  (∀ {xs : List TLead} {k : Int} {v : (List Int)}, InB xs k -> (Prim.set 16 12 1).run [rL xs, i64 k, rL v] = some [rL (setI xs k { (atI xs k) with attr := { (atI xs k).attr with deps := v } })]) /\
  (∀ {xs : List TLead} {k : Int} {v : Bool}, InB xs k -> (Prim.set 16 13 1).run [rL xs, i64 k, .bool v] = some [rL (setI xs k { (atI xs k) with same := v })]) /\
  (∀ {xs : List TLead} {k : Int} {v : (List Int)}, InB xs k -> (Prim.set 16 14 1).run [rL xs, i64 k, rL v] = some [rL (setI xs k { (atI xs k) with who := v })]) /\
  (∀ {xs : List TLead} {k : Int} {v : (List TRow)}, InB xs k -> (Prim.set 16 15 1).run [rL xs, i64 k, rL v] = some [rL (setI xs k { (atI xs k) with seen := v })]) /\
  (∀ {xs : List TLead} {k : Int} {v : Int}, InB xs k -> (Prim.set 16 2 1).run [rL xs, i64 k, i64 v] = some [rL (setI xs k { (atI xs k) with ballot := v })]) /\
  (∀ {xs : List TLead} {k : Int} {v : Int}, InB xs k -> (Prim.set 16 3 1).run [rL xs, i64 k, i64 v] = some [rL (setI xs k { (atI xs k) with phase := v })]) /\
  (∀ {xs : List TLead} {k : Int} {v : Int}, InB xs k -> (Prim.set 16 4 1).run [rL xs, i64 k, i64 v] = some [rL (setI xs k { (atI xs k) with cmd := { (atI xs k).cmd with kind := v } })]) /\
  (∀ {xs : List TLead} {k : Int} {v : Int}, InB xs k -> (Prim.set 16 5 1).run [rL xs, i64 k, i64 v] = some [rL (setI xs k { (atI xs k) with cmd := { (atI xs k).cmd with id := v } })]) /\
  (∀ {xs : List TLead} {k : Int} {v : Int}, InB xs k -> (Prim.set 16 6 1).run [rL xs, i64 k, i64 v] = some [rL (setI xs k { (atI xs k) with cmd := { (atI xs k).cmd with src := v } })]) /\
  (∀ {xs : List TLead} {k : Int} {v : Int}, InB xs k -> (Prim.set 16 7 1).run [rL xs, i64 k, i64 v] = some [rL (setI xs k { (atI xs k) with cmd := { (atI xs k).cmd with dst := v } })]) /\
  (∀ {xs : List TLead} {k : Int} {v : Int}, InB xs k -> (Prim.set 16 8 1).run [rL xs, i64 k, i64 v] = some [rL (setI xs k { (atI xs k) with cmd := { (atI xs k).cmd with amt := v } })]) /\
  (∀ {xs : List TLead} {k : Int} {v : Int}, InB xs k -> (Prim.set 16 9 1).run [rL xs, i64 k, i64 v] = some [rL (setI xs k { (atI xs k) with first := { (atI xs k).first with seq := v } })]) /\
  (∀ {xs : List TRep} {k : Int} {v : Int}, InB xs k -> (Prim.set 4 0 1).run [rL xs, i64 k, i64 v] = some [rL (setI xs k { (atI xs k) with me := v })]) /\
  (∀ {xs : List TRep} {k : Int} {v_me v_table_n : Int} {v_table_rows : (List (List TRow))} {v_leads : (List TLead)}, InB xs k -> (Prim.set 4 0 4).run [rL xs, i64 k, i64 v_me, i64 v_table_n, rL v_table_rows, rL v_leads] = some [rL (setI xs k ⟨v_me, ⟨v_table_n, v_table_rows⟩, v_leads⟩)]) /\
  (∀ {xs : List TRep} {k : Int} {v : Int}, InB xs k -> (Prim.set 4 1 1).run [rL xs, i64 k, i64 v] = some [rL (setI xs k { (atI xs k) with table := { (atI xs k).table with n := v } })]) /\
  (∀ {xs : List TRep} {k : Int} {v : (List (List TRow))}, InB xs k -> (Prim.set 4 2 1).run [rL xs, i64 k, rL v] = some [rL (setI xs k { (atI xs k) with table := { (atI xs k).table with rows := v } })]) /\
  (∀ {xs : List TRep} {k : Int} {v : (List TLead)}, InB xs k -> (Prim.set 4 3 1).run [rL xs, i64 k, rL v] = some [rL (setI xs k { (atI xs k) with leads := v })]) /\
  (∀ {xs : List TMsg} {k : Int} {v : Int}, InB xs k -> (Prim.set 15 0 1).run [rL xs, i64 k, i64 v] = some [rL (setI xs k { (atI xs k) with kind := v })]) /\
  (∀ {xs : List TMsg} {k : Int} {v_kind v_src v_dst v_rep v_no v_ballot v_vote v_state v_cmd_kind v_cmd_id v_cmd_src v_cmd_dst v_cmd_amt v_attr_seq : Int} {v_attr_deps : (List Int)}, InB xs k -> (Prim.set 15 0 15).run [rL xs, i64 k, i64 v_kind, i64 v_src, i64 v_dst, i64 v_rep, i64 v_no, i64 v_ballot, i64 v_vote, i64 v_state, i64 v_cmd_kind, i64 v_cmd_id, i64 v_cmd_src, i64 v_cmd_dst, i64 v_cmd_amt, i64 v_attr_seq, rL v_attr_deps] = some [rL (setI xs k ⟨v_kind, v_src, v_dst, v_rep, v_no, v_ballot, v_vote, v_state, ⟨v_cmd_kind, v_cmd_id, v_cmd_src, v_cmd_dst, v_cmd_amt⟩, ⟨v_attr_seq, v_attr_deps⟩⟩)]) /\
  (∀ {xs : List TMsg} {k : Int} {v : Int}, InB xs k -> (Prim.set 15 1 1).run [rL xs, i64 k, i64 v] = some [rL (setI xs k { (atI xs k) with src := v })]) /\
  (∀ {xs : List TMsg} {k : Int} {v : Int}, InB xs k -> (Prim.set 15 10 1).run [rL xs, i64 k, i64 v] = some [rL (setI xs k { (atI xs k) with cmd := { (atI xs k).cmd with src := v } })]) /\
  (∀ {xs : List TMsg} {k : Int} {v : Int}, InB xs k -> (Prim.set 15 11 1).run [rL xs, i64 k, i64 v] = some [rL (setI xs k { (atI xs k) with cmd := { (atI xs k).cmd with dst := v } })]) /\
  (∀ {xs : List TMsg} {k : Int} {v : Int}, InB xs k -> (Prim.set 15 12 1).run [rL xs, i64 k, i64 v] = some [rL (setI xs k { (atI xs k) with cmd := { (atI xs k).cmd with amt := v } })]) /\
  (∀ {xs : List TMsg} {k : Int} {v : Int}, InB xs k -> (Prim.set 15 13 1).run [rL xs, i64 k, i64 v] = some [rL (setI xs k { (atI xs k) with attr := { (atI xs k).attr with seq := v } })]) /\
  (∀ {xs : List TMsg} {k : Int} {v : (List Int)}, InB xs k -> (Prim.set 15 14 1).run [rL xs, i64 k, rL v] = some [rL (setI xs k { (atI xs k) with attr := { (atI xs k).attr with deps := v } })]) /\
  (∀ {xs : List TMsg} {k : Int} {v : Int}, InB xs k -> (Prim.set 15 2 1).run [rL xs, i64 k, i64 v] = some [rL (setI xs k { (atI xs k) with dst := v })]) /\
  (∀ {xs : List TMsg} {k : Int} {v : Int}, InB xs k -> (Prim.set 15 3 1).run [rL xs, i64 k, i64 v] = some [rL (setI xs k { (atI xs k) with rep := v })]) /\
  (∀ {xs : List TMsg} {k : Int} {v : Int}, InB xs k -> (Prim.set 15 4 1).run [rL xs, i64 k, i64 v] = some [rL (setI xs k { (atI xs k) with no := v })]) /\
  (∀ {xs : List TMsg} {k : Int} {v : Int}, InB xs k -> (Prim.set 15 5 1).run [rL xs, i64 k, i64 v] = some [rL (setI xs k { (atI xs k) with ballot := v })]) /\
  (∀ {xs : List TMsg} {k : Int} {v : Int}, InB xs k -> (Prim.set 15 6 1).run [rL xs, i64 k, i64 v] = some [rL (setI xs k { (atI xs k) with vote := v })]) /\
  (∀ {xs : List TMsg} {k : Int} {v : Int}, InB xs k -> (Prim.set 15 7 1).run [rL xs, i64 k, i64 v] = some [rL (setI xs k { (atI xs k) with state := v })]) /\
  (∀ {xs : List TMsg} {k : Int} {v : Int}, InB xs k -> (Prim.set 15 8 1).run [rL xs, i64 k, i64 v] = some [rL (setI xs k { (atI xs k) with cmd := { (atI xs k).cmd with kind := v } })]) /\
  (∀ {xs : List TMsg} {k : Int} {v : Int}, InB xs k -> (Prim.set 15 9 1).run [rL xs, i64 k, i64 v] = some [rL (setI xs k { (atI xs k) with cmd := { (atI xs k).cmd with id := v } })]) /\
  (∀ {xs : List TAsked} {k : Int} {v : Int}, InB xs k -> (Prim.set 7 0 1).run [rL xs, i64 k, i64 v] = some [rL (setI xs k { (atI xs k) with rep := v })]) /\
  (∀ {xs : List TAsked} {k : Int} {v_rep v_no v_cmd_kind v_cmd_id v_cmd_src v_cmd_dst v_cmd_amt : Int}, InB xs k -> (Prim.set 7 0 7).run [rL xs, i64 k, i64 v_rep, i64 v_no, i64 v_cmd_kind, i64 v_cmd_id, i64 v_cmd_src, i64 v_cmd_dst, i64 v_cmd_amt] = some [rL (setI xs k ⟨v_rep, v_no, ⟨v_cmd_kind, v_cmd_id, v_cmd_src, v_cmd_dst, v_cmd_amt⟩⟩)]) /\
  (∀ {xs : List TAsked} {k : Int} {v : Int}, InB xs k -> (Prim.set 7 1 1).run [rL xs, i64 k, i64 v] = some [rL (setI xs k { (atI xs k) with no := v })]) /\
  (∀ {xs : List TAsked} {k : Int} {v : Int}, InB xs k -> (Prim.set 7 2 1).run [rL xs, i64 k, i64 v] = some [rL (setI xs k { (atI xs k) with cmd := { (atI xs k).cmd with kind := v } })]) /\
  (∀ {xs : List TAsked} {k : Int} {v : Int}, InB xs k -> (Prim.set 7 3 1).run [rL xs, i64 k, i64 v] = some [rL (setI xs k { (atI xs k) with cmd := { (atI xs k).cmd with id := v } })]) /\
  (∀ {xs : List TAsked} {k : Int} {v : Int}, InB xs k -> (Prim.set 7 4 1).run [rL xs, i64 k, i64 v] = some [rL (setI xs k { (atI xs k) with cmd := { (atI xs k).cmd with src := v } })]) /\
  (∀ {xs : List TAsked} {k : Int} {v : Int}, InB xs k -> (Prim.set 7 5 1).run [rL xs, i64 k, i64 v] = some [rL (setI xs k { (atI xs k) with cmd := { (atI xs k).cmd with dst := v } })]) /\
  (∀ {xs : List TAsked} {k : Int} {v : Int}, InB xs k -> (Prim.set 7 6 1).run [rL xs, i64 k, i64 v] = some [rL (setI xs k { (atI xs k) with cmd := { (atI xs k).cmd with amt := v } })]) /\
  (∀ {xs : List TTold} {k : Int} {v : Int}, InB xs k -> (Prim.set 2 0 1).run [rL xs, i64 k, i64 v] = some [rL (setI xs k { (atI xs k) with code := v })]) /\
  (∀ {xs : List TTold} {k : Int} {v_code v_sum : Int}, InB xs k -> (Prim.set 2 0 2).run [rL xs, i64 k, i64 v_code, i64 v_sum] = some [rL (setI xs k ⟨v_code, v_sum⟩)]) /\
  (∀ {xs : List TTold} {k : Int} {v : Int}, InB xs k -> (Prim.set 2 1 1).run [rL xs, i64 k, i64 v] = some [rL (setI xs k { (atI xs k) with sum := v })]) /\
  (∀ {xs : List TEntry} {k : Int} {v : Int}, InB xs k -> (Prim.set 9 0 1).run [rL xs, i64 k, i64 v] = some [rL (setI xs k { (atI xs k) with rep := v })]) /\
  (∀ {xs : List TEntry} {k : Int} {v : Int}, InB xs k -> (Prim.set 9 1 1).run [rL xs, i64 k, i64 v] = some [rL (setI xs k { (atI xs k) with no := v })]) /\
  (∀ {xs : List TEntry} {k : Int} {v : Int}, InB xs k -> (Prim.set 9 2 1).run [rL xs, i64 k, i64 v] = some [rL (setI xs k { (atI xs k) with cmd := { (atI xs k).cmd with kind := v } })]) /\
  (∀ {xs : List TEntry} {k : Int} {v : Int}, InB xs k -> (Prim.set 9 3 1).run [rL xs, i64 k, i64 v] = some [rL (setI xs k { (atI xs k) with cmd := { (atI xs k).cmd with id := v } })]) /\
  (∀ {xs : List TEntry} {k : Int} {v : Int}, InB xs k -> (Prim.set 9 4 1).run [rL xs, i64 k, i64 v] = some [rL (setI xs k { (atI xs k) with cmd := { (atI xs k).cmd with src := v } })]) /\
  (∀ {xs : List TEntry} {k : Int} {v : Int}, InB xs k -> (Prim.set 9 5 1).run [rL xs, i64 k, i64 v] = some [rL (setI xs k { (atI xs k) with cmd := { (atI xs k).cmd with dst := v } })]) /\
  (∀ {xs : List TEntry} {k : Int} {v : Int}, InB xs k -> (Prim.set 9 6 1).run [rL xs, i64 k, i64 v] = some [rL (setI xs k { (atI xs k) with cmd := { (atI xs k).cmd with amt := v } })]) /\
  (∀ {xs : List TEntry} {k : Int} {v : Int}, InB xs k -> (Prim.set 9 7 1).run [rL xs, i64 k, i64 v] = some [rL (setI xs k { (atI xs k) with told := { (atI xs k).told with code := v } })]) /\
  (∀ {xs : List TEntry} {k : Int} {v : Int}, InB xs k -> (Prim.set 9 8 1).run [rL xs, i64 k, i64 v] = some [rL (setI xs k { (atI xs k) with told := { (atI xs k).told with sum := v } })]) /\
  (∀ {xs : List TAsk} {k : Int} {v : Int}, InB xs k -> (Prim.set 7 0 1).run [rL xs, i64 k, i64 v] = some [rL (setI xs k { (atI xs k) with client := v })]) /\
  (∀ {xs : List TAsk} {k : Int} {v_client v_no v_cmd_kind v_cmd_id v_cmd_src v_cmd_dst v_cmd_amt : Int}, InB xs k -> (Prim.set 7 0 7).run [rL xs, i64 k, i64 v_client, i64 v_no, i64 v_cmd_kind, i64 v_cmd_id, i64 v_cmd_src, i64 v_cmd_dst, i64 v_cmd_amt] = some [rL (setI xs k ⟨v_client, v_no, ⟨v_cmd_kind, v_cmd_id, v_cmd_src, v_cmd_dst, v_cmd_amt⟩⟩)]) /\
  (∀ {xs : List TAsk} {k : Int} {v : Int}, InB xs k -> (Prim.set 7 1 1).run [rL xs, i64 k, i64 v] = some [rL (setI xs k { (atI xs k) with no := v })]) /\
  (∀ {xs : List TAsk} {k : Int} {v : Int}, InB xs k -> (Prim.set 7 2 1).run [rL xs, i64 k, i64 v] = some [rL (setI xs k { (atI xs k) with cmd := { (atI xs k).cmd with kind := v } })]) /\
  (∀ {xs : List TAsk} {k : Int} {v : Int}, InB xs k -> (Prim.set 7 3 1).run [rL xs, i64 k, i64 v] = some [rL (setI xs k { (atI xs k) with cmd := { (atI xs k).cmd with id := v } })]) /\
  (∀ {xs : List TAsk} {k : Int} {v : Int}, InB xs k -> (Prim.set 7 4 1).run [rL xs, i64 k, i64 v] = some [rL (setI xs k { (atI xs k) with cmd := { (atI xs k).cmd with src := v } })]) /\
  (∀ {xs : List TAsk} {k : Int} {v : Int}, InB xs k -> (Prim.set 7 5 1).run [rL xs, i64 k, i64 v] = some [rL (setI xs k { (atI xs k) with cmd := { (atI xs k).cmd with dst := v } })]) /\
  (∀ {xs : List TAsk} {k : Int} {v : Int}, InB xs k -> (Prim.set 7 6 1).run [rL xs, i64 k, i64 v] = some [rL (setI xs k { (atI xs k) with cmd := { (atI xs k).cmd with amt := v } })]) :=
 ⟨fun h => (rL_set rfl rfl (by decide) rfl h),
  fun h => (rL_set rfl rfl (by decide) rfl h),
  fun h => (rL_set rfl rfl (by decide) rfl h),
  fun h => (rL_set rfl rfl (by decide) rfl h),
  fun h => (rL_set rfl rfl (by decide) rfl h),
  fun h => (rL_set rfl rfl (by decide) rfl h),
  fun h => (rL_set rfl rfl (by decide) rfl h),
  fun h => (rL_set rfl rfl (by decide) rfl h),
  fun h => (rL_set rfl rfl (by decide) rfl h),
  fun h => (rL_set rfl rfl (by decide) rfl h),
  fun h => (rL_set rfl rfl (by decide) rfl h),
  fun h => (rL_set rfl rfl (by decide) rfl h),
  fun h => (rL_set rfl rfl (by decide) rfl h),
  fun h => (rL_set rfl rfl (by decide) rfl h),
  fun h => (rL_set rfl rfl (by decide) rfl h),
  fun h => (rL_set rfl rfl (by decide) rfl h),
  fun h => (rL_set rfl rfl (by decide) rfl h),
  fun h => (rL_set rfl rfl (by decide) rfl h),
  fun h => (rL_set rfl rfl (by decide) rfl h),
  fun h => (rL_set rfl rfl (by decide) rfl h),
  fun h => (rL_set rfl rfl (by decide) rfl h),
  fun h => (rL_set rfl rfl (by decide) rfl h),
  fun h => (rL_set rfl rfl (by decide) rfl h),
  fun h => (rL_set rfl rfl (by decide) rfl h),
  fun h => (rL_set rfl rfl (by decide) rfl h),
  fun h => (rL_set rfl rfl (by decide) rfl h),
  fun h => (rL_set rfl rfl (by decide) rfl h),
  fun h => (rL_set rfl rfl (by decide) rfl h),
  fun h => (rL_set rfl rfl (by decide) rfl h),
  fun h => (rL_set rfl rfl (by decide) rfl h),
  fun h => (rL_set rfl rfl (by decide) rfl h),
  fun h => (rL_set rfl rfl (by decide) rfl h),
  fun h => (rL_set rfl rfl (by decide) rfl h),
  fun h => (rL_set rfl rfl (by decide) rfl h),
  fun h => (rL_set rfl rfl (by decide) rfl h),
  fun h => (rL_set rfl rfl (by decide) rfl h),
  fun h => (rL_set rfl rfl (by decide) rfl h),
  fun h => (rL_set rfl rfl (by decide) rfl h),
  fun h => (rL_set rfl rfl (by decide) rfl h),
  fun h => (rL_set rfl rfl (by decide) rfl h),
  fun h => (rL_set rfl rfl (by decide) rfl h),
  fun h => (rL_set rfl rfl (by decide) rfl h),
  fun h => (rL_set rfl rfl (by decide) rfl h),
  fun h => (rL_set rfl rfl (by decide) rfl h),
  fun h => (rL_set rfl rfl (by decide) rfl h),
  fun h => (rL_set rfl rfl (by decide) rfl h),
  fun h => (rL_set rfl rfl (by decide) rfl h),
  fun h => (rL_set rfl rfl (by decide) rfl h),
  fun h => (rL_set rfl rfl (by decide) rfl h),
  fun h => (rL_set rfl rfl (by decide) rfl h),
  fun h => (rL_set rfl rfl (by decide) rfl h),
  fun h => (rL_set rfl rfl (by decide) rfl h),
  fun h => (rL_set rfl rfl (by decide) rfl h),
  fun h => (rL_set rfl rfl (by decide) rfl h),
  fun h => (rL_set rfl rfl (by decide) rfl h),
  fun h => (rL_set rfl rfl (by decide) rfl h),
  fun h => (rL_set rfl rfl (by decide) rfl h),
  fun h => (rL_set rfl rfl (by decide) rfl h),
  fun h => (rL_set rfl rfl (by decide) rfl h),
  fun h => (rL_set rfl rfl (by decide) rfl h),
  fun h => (rL_set rfl rfl (by decide) rfl h),
  fun h => (rL_set rfl rfl (by decide) rfl h),
  fun h => (rL_set rfl rfl (by decide) rfl h),
  fun h => (rL_set rfl rfl (by decide) rfl h),
  fun h => (rL_set rfl rfl (by decide) rfl h),
  fun h => (rL_set rfl rfl (by decide) rfl h),
  fun h => (rL_set rfl rfl (by decide) rfl h),
  fun h => (rL_set rfl rfl (by decide) rfl h),
  fun h => (rL_set rfl rfl (by decide) rfl h),
  fun h => (rL_set rfl rfl (by decide) rfl h),
  fun h => (rL_set rfl rfl (by decide) rfl h),
  fun h => (rL_set rfl rfl (by decide) rfl h),
  fun h => (rL_set rfl rfl (by decide) rfl h),
  fun h => (rL_set rfl rfl (by decide) rfl h),
  fun h => (rL_set rfl rfl (by decide) rfl h),
  fun h => (rL_set rfl rfl (by decide) rfl h),
  fun h => (rL_set rfl rfl (by decide) rfl h),
  fun h => (rL_set rfl rfl (by decide) rfl h),
  fun h => (rL_set rfl rfl (by decide) rfl h),
  fun h => (rL_set rfl rfl (by decide) rfl h),
  fun h => (rL_set rfl rfl (by decide) rfl h),
  fun h => (rL_set rfl rfl (by decide) rfl h),
  fun h => (rL_set rfl rfl (by decide) rfl h),
  fun h => (rL_set rfl rfl (by decide) rfl h),
  fun h => (rL_set rfl rfl (by decide) rfl h)⟩
theorem S_mk : (∀ {v0 : Int}, (Prim.mk 1 1).run [i64 v0] = some [rL [v0]]) /\
  (∀ {v0 v1 : Int}, (Prim.mk 1 2).run [i64 v0, i64 v1] = some [rL [v0, v1]]) /\
  (∀ {v0 v1 v2 : Int}, (Prim.mk 1 3).run [i64 v0, i64 v1, i64 v2] = some [rL [v0, v1, v2]]) /\
  (∀ {v0 v1 v2 v3 : Int}, (Prim.mk 1 4).run [i64 v0, i64 v1, i64 v2, i64 v3] = some [rL [v0, v1, v2, v3]]) /\
  (∀ {v0 v1 v2 v3 v4 : Int}, (Prim.mk 1 5).run [i64 v0, i64 v1, i64 v2, i64 v3, i64 v4] = some [rL [v0, v1, v2, v3, v4]]) /\
  (∀ {v0 v1 v2 v3 v4 v5 v6 : Int}, (Prim.mk 1 7).run [i64 v0, i64 v1, i64 v2, i64 v3, i64 v4, i64 v5, i64 v6] = some [rL [v0, v1, v2, v3, v4, v5, v6]]) /\
  (∀ {v0 v1 v2 v3 v4 v5 v6 v7 : Int}, (Prim.mk 1 8).run [i64 v0, i64 v1, i64 v2, i64 v3, i64 v4, i64 v5, i64 v6, i64 v7] = some [rL [v0, v1, v2, v3, v4, v5, v6, v7]]) /\
  (∀ {v0 v1 v2 v3 v4 v5 v6 v7 v8 : Int}, (Prim.mk 1 9).run [i64 v0, i64 v1, i64 v2, i64 v3, i64 v4, i64 v5, i64 v6, i64 v7, i64 v8] = some [rL [v0, v1, v2, v3, v4, v5, v6, v7, v8]]) /\
  (∀ {v0 : (List UInt8)}, (Prim.mk 1 1).run [.str v0] = some [rL [v0]]) /\
  (∀ {v0 v1 : (List UInt8)}, (Prim.mk 1 2).run [.str v0, .str v1] = some [rL [v0, v1]]) /\
  (∀ {v0 v1 v2 : (List UInt8)}, (Prim.mk 1 3).run [.str v0, .str v1, .str v2] = some [rL [v0, v1, v2]]) /\
  (∀ {v0 v1 v2 v3 : (List UInt8)}, (Prim.mk 1 4).run [.str v0, .str v1, .str v2, .str v3] = some [rL [v0, v1, v2, v3]]) /\
  (∀ {v0 v1 v2 v3 v4 : (List UInt8)}, (Prim.mk 1 5).run [.str v0, .str v1, .str v2, .str v3, .str v4] = some [rL [v0, v1, v2, v3, v4]]) /\
  (∀ {v0 v1 v2 v3 v4 v5 v6 : (List UInt8)}, (Prim.mk 1 7).run [.str v0, .str v1, .str v2, .str v3, .str v4, .str v5, .str v6] = some [rL [v0, v1, v2, v3, v4, v5, v6]]) /\
  (∀ {v0 v1 v2 v3 v4 v5 v6 v7 : (List UInt8)}, (Prim.mk 1 8).run [.str v0, .str v1, .str v2, .str v3, .str v4, .str v5, .str v6, .str v7] = some [rL [v0, v1, v2, v3, v4, v5, v6, v7]]) /\
  (∀ {v0 v1 v2 v3 v4 v5 v6 v7 v8 : (List UInt8)}, (Prim.mk 1 9).run [.str v0, .str v1, .str v2, .str v3, .str v4, .str v5, .str v6, .str v7, .str v8] = some [rL [v0, v1, v2, v3, v4, v5, v6, v7, v8]]) /\
  (∀ {v0 : (List Int)}, (Prim.mk 1 1).run [rL v0] = some [rL [v0]]) /\
  (∀ {v0 : (List TRow)}, (Prim.mk 1 1).run [rL v0] = some [rL [v0]]) /\
  (∀ {v0 : (List (List Int))}, (Prim.mk 1 1).run [rL v0] = some [rL [v0]]) /\
  (∀ {v_kind v_id v_src v_dst v_amt : Int}, (Prim.mk 5 1).run [i64 v_kind, i64 v_id, i64 v_src, i64 v_dst, i64 v_amt] = some [rL [(⟨v_kind, v_id, v_src, v_dst, v_amt⟩ : TCmd)]]) /\
  (∀ {v_ballot v_vote v_state v_cmd_kind v_cmd_id v_cmd_src v_cmd_dst v_cmd_amt v_attr_seq : Int} {v_attr_deps : (List Int)}, (Prim.mk 10 1).run [i64 v_ballot, i64 v_vote, i64 v_state, i64 v_cmd_kind, i64 v_cmd_id, i64 v_cmd_src, i64 v_cmd_dst, i64 v_cmd_amt, i64 v_attr_seq, rL v_attr_deps] = some [rL [(⟨v_ballot, v_vote, v_state, ⟨v_cmd_kind, v_cmd_id, v_cmd_src, v_cmd_dst, v_cmd_amt⟩, ⟨v_attr_seq, v_attr_deps⟩⟩ : TRow)]]) /\
  (∀ {v_n : Int} {v_rows : (List (List TRow))}, (Prim.mk 2 1).run [i64 v_n, rL v_rows] = some [rL [(⟨v_n, v_rows⟩ : TTable)]]) /\
  (∀ {v_rep v_no v_ballot v_phase v_cmd_kind v_cmd_id v_cmd_src v_cmd_dst v_cmd_amt v_first_seq : Int} {v_first_deps : (List Int)} {v_attr_seq : Int} {v_attr_deps : (List Int)} {v_same : Bool} {v_who : (List Int)} {v_seen : (List TRow)}, (Prim.mk 16 1).run [i64 v_rep, i64 v_no, i64 v_ballot, i64 v_phase, i64 v_cmd_kind, i64 v_cmd_id, i64 v_cmd_src, i64 v_cmd_dst, i64 v_cmd_amt, i64 v_first_seq, rL v_first_deps, i64 v_attr_seq, rL v_attr_deps, .bool v_same, rL v_who, rL v_seen] = some [rL [(⟨v_rep, v_no, v_ballot, v_phase, ⟨v_cmd_kind, v_cmd_id, v_cmd_src, v_cmd_dst, v_cmd_amt⟩, ⟨v_first_seq, v_first_deps⟩, ⟨v_attr_seq, v_attr_deps⟩, v_same, v_who, v_seen⟩ : TLead)]]) /\
  (∀ {v_me v_table_n : Int} {v_table_rows : (List (List TRow))} {v_leads : (List TLead)}, (Prim.mk 4 1).run [i64 v_me, i64 v_table_n, rL v_table_rows, rL v_leads] = some [rL [(⟨v_me, ⟨v_table_n, v_table_rows⟩, v_leads⟩ : TRep)]]) /\
  (∀ {v_kind v_src v_dst v_rep v_no v_ballot v_vote v_state v_cmd_kind v_cmd_id v_cmd_src v_cmd_dst v_cmd_amt v_attr_seq : Int} {v_attr_deps : (List Int)}, (Prim.mk 15 1).run [i64 v_kind, i64 v_src, i64 v_dst, i64 v_rep, i64 v_no, i64 v_ballot, i64 v_vote, i64 v_state, i64 v_cmd_kind, i64 v_cmd_id, i64 v_cmd_src, i64 v_cmd_dst, i64 v_cmd_amt, i64 v_attr_seq, rL v_attr_deps] = some [rL [(⟨v_kind, v_src, v_dst, v_rep, v_no, v_ballot, v_vote, v_state, ⟨v_cmd_kind, v_cmd_id, v_cmd_src, v_cmd_dst, v_cmd_amt⟩, ⟨v_attr_seq, v_attr_deps⟩⟩ : TMsg)]]) /\
  (∀ {v_rep v_no v_cmd_kind v_cmd_id v_cmd_src v_cmd_dst v_cmd_amt : Int}, (Prim.mk 7 1).run [i64 v_rep, i64 v_no, i64 v_cmd_kind, i64 v_cmd_id, i64 v_cmd_src, i64 v_cmd_dst, i64 v_cmd_amt] = some [rL [(⟨v_rep, v_no, ⟨v_cmd_kind, v_cmd_id, v_cmd_src, v_cmd_dst, v_cmd_amt⟩⟩ : TAsked)]]) /\
  (∀ {v_code v_sum : Int}, (Prim.mk 2 1).run [i64 v_code, i64 v_sum] = some [rL [(⟨v_code, v_sum⟩ : TTold)]]) /\
  (∀ {v_rep v_no v_cmd_kind v_cmd_id v_cmd_src v_cmd_dst v_cmd_amt v_told_code v_told_sum : Int}, (Prim.mk 9 1).run [i64 v_rep, i64 v_no, i64 v_cmd_kind, i64 v_cmd_id, i64 v_cmd_src, i64 v_cmd_dst, i64 v_cmd_amt, i64 v_told_code, i64 v_told_sum] = some [rL [(⟨v_rep, v_no, ⟨v_cmd_kind, v_cmd_id, v_cmd_src, v_cmd_dst, v_cmd_amt⟩, ⟨v_told_code, v_told_sum⟩⟩ : TEntry)]]) /\
  (∀ {v_client v_no v_cmd_kind v_cmd_id v_cmd_src v_cmd_dst v_cmd_amt : Int}, (Prim.mk 7 1).run [i64 v_client, i64 v_no, i64 v_cmd_kind, i64 v_cmd_id, i64 v_cmd_src, i64 v_cmd_dst, i64 v_cmd_amt] = some [rL [(⟨v_client, v_no, ⟨v_cmd_kind, v_cmd_id, v_cmd_src, v_cmd_dst, v_cmd_amt⟩⟩ : TAsk)]]) :=
 ⟨rfl,
  rfl,
  rfl,
  rfl,
  rfl,
  rfl,
  rfl,
  rfl,
  rfl,
  rfl,
  rfl,
  rfl,
  rfl,
  rfl,
  rfl,
  rfl,
  rfl,
  rfl,
  rfl,
  (rL_mk1 rfl rfl),
  (rL_mk1 rfl rfl),
  (rL_mk1 rfl rfl),
  (rL_mk1 rfl rfl),
  (rL_mk1 rfl rfl),
  (rL_mk1 rfl rfl),
  (rL_mk1 rfl rfl),
  (rL_mk1 rfl rfl),
  (rL_mk1 rfl rfl),
  (rL_mk1 rfl rfl)⟩
theorem S_make : (∀ {n : Int}, 0 <= n -> n <= 100000000000 -> (Prim.make 8 [(.int .i64 0)]).run [i64 n] = some [rL (List.replicate n.toNat (0 : Int))]) /\
  (∀ {n : Int}, 0 <= n -> n <= 100000000000 -> (Prim.make 16 [(.str [])]).run [i64 n] = some [rL (List.replicate n.toNat ([] : (List UInt8)))]) /\
  (∀ {n : Int}, 0 <= n -> n <= 100000000000 -> (Prim.make 24 [(.rows 1 [])]).run [i64 n] = some [rL (List.replicate n.toNat ([] : (List Int)))]) /\
  (∀ {n : Int}, 0 <= n -> n <= 100000000000 -> (Prim.make 24 [(.rows 10 [])]).run [i64 n] = some [rL (List.replicate n.toNat ([] : (List TRow)))]) /\
  (∀ {n : Int}, 0 <= n -> n <= 100000000000 -> (Prim.make 24 [(.rows 1 [])]).run [i64 n] = some [rL (List.replicate n.toNat ([] : (List (List Int))))]) /\
  (∀ {n : Int}, 0 <= n -> n <= 100000000000 -> (Prim.make 40 [(.int .i64 0), (.int .i64 0), (.int .i64 0), (.int .i64 0), (.int .i64 0)]).run [i64 n] = some [rL (List.replicate n.toNat (default : TCmd))]) /\
  (∀ {n : Int}, 0 <= n -> n <= 100000000000 -> (Prim.make 96 [(.int .i64 0), (.int .i64 0), (.int .i64 0), (.int .i64 0), (.int .i64 0), (.int .i64 0), (.int .i64 0), (.int .i64 0), (.int .i64 0), (.rows 1 [])]).run [i64 n] = some [rL (List.replicate n.toNat (default : TRow))]) /\
  (∀ {n : Int}, 0 <= n -> n <= 100000000000 -> (Prim.make 32 [(.int .i64 0), (.rows 1 [])]).run [i64 n] = some [rL (List.replicate n.toNat (default : TTable))]) /\
  (∀ {n : Int}, 0 <= n -> n <= 100000000000 -> (Prim.make 192 [(.int .i64 0), (.int .i64 0), (.int .i64 0), (.int .i64 0), (.int .i64 0), (.int .i64 0), (.int .i64 0), (.int .i64 0), (.int .i64 0), (.int .i64 0), (.rows 1 []), (.int .i64 0), (.rows 1 []), (.bool false), (.rows 1 []), (.rows 10 [])]).run [i64 n] = some [rL (List.replicate n.toNat (default : TLead))]) /\
  (∀ {n : Int}, 0 <= n -> n <= 100000000000 -> (Prim.make 64 [(.int .i64 0), (.int .i64 0), (.rows 1 []), (.rows 16 [])]).run [i64 n] = some [rL (List.replicate n.toNat (default : TRep))]) /\
  (∀ {n : Int}, 0 <= n -> n <= 100000000000 -> (Prim.make 136 [(.int .i64 0), (.int .i64 0), (.int .i64 0), (.int .i64 0), (.int .i64 0), (.int .i64 0), (.int .i64 0), (.int .i64 0), (.int .i64 0), (.int .i64 0), (.int .i64 0), (.int .i64 0), (.int .i64 0), (.int .i64 0), (.rows 1 [])]).run [i64 n] = some [rL (List.replicate n.toNat (default : TMsg))]) /\
  (∀ {n : Int}, 0 <= n -> n <= 100000000000 -> (Prim.make 56 [(.int .i64 0), (.int .i64 0), (.int .i64 0), (.int .i64 0), (.int .i64 0), (.int .i64 0), (.int .i64 0)]).run [i64 n] = some [rL (List.replicate n.toNat (default : TAsked))]) /\
  (∀ {n : Int}, 0 <= n -> n <= 100000000000 -> (Prim.make 16 [(.int .i64 0), (.int .i64 0)]).run [i64 n] = some [rL (List.replicate n.toNat (default : TTold))]) /\
  (∀ {n : Int}, 0 <= n -> n <= 100000000000 -> (Prim.make 72 [(.int .i64 0), (.int .i64 0), (.int .i64 0), (.int .i64 0), (.int .i64 0), (.int .i64 0), (.int .i64 0), (.int .i64 0), (.int .i64 0)]).run [i64 n] = some [rL (List.replicate n.toNat (default : TEntry))]) /\
  (∀ {n : Int}, 0 <= n -> n <= 100000000000 -> (Prim.make 72 [(.rows 1 []), (.rows 1 []), (.rows 2 [])]).run [i64 n] = some [rL (List.replicate n.toNat (default : TClerk))]) /\
  (∀ {n : Int}, 0 <= n -> n <= 100000000000 -> (Prim.make 56 [(.int .i64 0), (.int .i64 0), (.int .i64 0), (.int .i64 0), (.int .i64 0), (.int .i64 0), (.int .i64 0)]).run [i64 n] = some [rL (List.replicate n.toNat (default : TAsk))]) :=
 ⟨fun h h2 => (rL_make rfl h (by unfold boundB; omega)),
  fun h h2 => (rL_make rfl h (by unfold boundB; omega)),
  fun h h2 => (rL_make rfl h (by unfold boundB; omega)),
  fun h h2 => (rL_make rfl h (by unfold boundB; omega)),
  fun h h2 => (rL_make rfl h (by unfold boundB; omega)),
  fun h h2 => (rL_make rfl h (by unfold boundB; omega)),
  fun h h2 => (rL_make rfl h (by unfold boundB; omega)),
  fun h h2 => (rL_make rfl h (by unfold boundB; omega)),
  fun h h2 => (rL_make rfl h (by unfold boundB; omega)),
  fun h h2 => (rL_make rfl h (by unfold boundB; omega)),
  fun h h2 => (rL_make rfl h (by unfold boundB; omega)),
  fun h h2 => (rL_make rfl h (by unfold boundB; omega)),
  fun h h2 => (rL_make rfl h (by unfold boundB; omega)),
  fun h h2 => (rL_make rfl h (by unfold boundB; omega)),
  fun h h2 => (rL_make rfl h (by unfold boundB; omega)),
  fun h h2 => (rL_make rfl h (by unfold boundB; omega))⟩
theorem S_app : (∀ {xs ys : List Int}, xs.length + ys.length <= 100000000000 -> (Prim.app 1 8 true).run [rL xs, rL ys] = some [rL (xs ++ ys)]) /\
  (∀ {ys : List Int}, ys.length <= 100000000000 -> (Prim.app 1 8 true).run [.rows 1 [], rL ys] = some [rL ys]) /\
  (∀ {xs ys : List Int}, xs.length + ys.length <= 100000000000 -> (Prim.app 1 8 false).run [rL xs, rL ys] = some [rL (xs ++ ys)]) /\
  (∀ {ys : List Int}, ys.length <= 100000000000 -> (Prim.app 1 8 false).run [.rows 1 [], rL ys] = some [rL ys]) /\
  (∀ {xs ys : List (List UInt8)}, xs.length + ys.length <= 100000000000 -> (Prim.app 1 16 true).run [rL xs, rL ys] = some [rL (xs ++ ys)]) /\
  (∀ {ys : List (List UInt8)}, ys.length <= 100000000000 -> (Prim.app 1 16 true).run [.rows 1 [], rL ys] = some [rL ys]) /\
  (∀ {xs ys : List (List UInt8)}, xs.length + ys.length <= 100000000000 -> (Prim.app 1 16 false).run [rL xs, rL ys] = some [rL (xs ++ ys)]) /\
  (∀ {ys : List (List UInt8)}, ys.length <= 100000000000 -> (Prim.app 1 16 false).run [.rows 1 [], rL ys] = some [rL ys]) /\
  (∀ {xs ys : List (List Int)}, xs.length + ys.length <= 100000000000 -> (Prim.app 1 24 false).run [rL xs, rL ys] = some [rL (xs ++ ys)]) /\
  (∀ {ys : List (List Int)}, ys.length <= 100000000000 -> (Prim.app 1 24 false).run [.rows 1 [], rL ys] = some [rL ys]) /\
  (∀ {xs ys : List (List TRow)}, xs.length + ys.length <= 100000000000 -> (Prim.app 1 24 false).run [rL xs, rL ys] = some [rL (xs ++ ys)]) /\
  (∀ {ys : List (List TRow)}, ys.length <= 100000000000 -> (Prim.app 1 24 false).run [.rows 1 [], rL ys] = some [rL ys]) /\
  (∀ {xs ys : List (List (List Int))}, xs.length + ys.length <= 100000000000 -> (Prim.app 1 24 false).run [rL xs, rL ys] = some [rL (xs ++ ys)]) /\
  (∀ {ys : List (List (List Int))}, ys.length <= 100000000000 -> (Prim.app 1 24 false).run [.rows 1 [], rL ys] = some [rL ys]) /\
  (∀ {xs ys : List TCmd}, xs.length + ys.length <= 100000000000 -> (Prim.app 5 40 true).run [rL xs, rL ys] = some [rL (xs ++ ys)]) /\
  (∀ {ys : List TCmd}, ys.length <= 100000000000 -> (Prim.app 5 40 true).run [.rows 5 [], rL ys] = some [rL ys]) /\
  (∀ {xs ys : List TCmd}, xs.length + ys.length <= 100000000000 -> (Prim.app 5 40 false).run [rL xs, rL ys] = some [rL (xs ++ ys)]) /\
  (∀ {ys : List TCmd}, ys.length <= 100000000000 -> (Prim.app 5 40 false).run [.rows 5 [], rL ys] = some [rL ys]) /\
  (∀ {xs ys : List TRow}, xs.length + ys.length <= 100000000000 -> (Prim.app 10 96 false).run [rL xs, rL ys] = some [rL (xs ++ ys)]) /\
  (∀ {ys : List TRow}, ys.length <= 100000000000 -> (Prim.app 10 96 false).run [.rows 10 [], rL ys] = some [rL ys]) /\
  (∀ {xs ys : List TTable}, xs.length + ys.length <= 100000000000 -> (Prim.app 2 32 false).run [rL xs, rL ys] = some [rL (xs ++ ys)]) /\
  (∀ {ys : List TTable}, ys.length <= 100000000000 -> (Prim.app 2 32 false).run [.rows 2 [], rL ys] = some [rL ys]) /\
  (∀ {xs ys : List TLead}, xs.length + ys.length <= 100000000000 -> (Prim.app 16 192 false).run [rL xs, rL ys] = some [rL (xs ++ ys)]) /\
  (∀ {ys : List TLead}, ys.length <= 100000000000 -> (Prim.app 16 192 false).run [.rows 16 [], rL ys] = some [rL ys]) /\
  (∀ {xs ys : List TRep}, xs.length + ys.length <= 100000000000 -> (Prim.app 4 64 false).run [rL xs, rL ys] = some [rL (xs ++ ys)]) /\
  (∀ {ys : List TRep}, ys.length <= 100000000000 -> (Prim.app 4 64 false).run [.rows 4 [], rL ys] = some [rL ys]) /\
  (∀ {xs ys : List TMsg}, xs.length + ys.length <= 100000000000 -> (Prim.app 15 136 false).run [rL xs, rL ys] = some [rL (xs ++ ys)]) /\
  (∀ {ys : List TMsg}, ys.length <= 100000000000 -> (Prim.app 15 136 false).run [.rows 15 [], rL ys] = some [rL ys]) /\
  (∀ {xs ys : List TAsked}, xs.length + ys.length <= 100000000000 -> (Prim.app 7 56 true).run [rL xs, rL ys] = some [rL (xs ++ ys)]) /\
  (∀ {ys : List TAsked}, ys.length <= 100000000000 -> (Prim.app 7 56 true).run [.rows 7 [], rL ys] = some [rL ys]) /\
  (∀ {xs ys : List TAsked}, xs.length + ys.length <= 100000000000 -> (Prim.app 7 56 false).run [rL xs, rL ys] = some [rL (xs ++ ys)]) /\
  (∀ {ys : List TAsked}, ys.length <= 100000000000 -> (Prim.app 7 56 false).run [.rows 7 [], rL ys] = some [rL ys]) /\
  (∀ {xs ys : List TTold}, xs.length + ys.length <= 100000000000 -> (Prim.app 2 16 true).run [rL xs, rL ys] = some [rL (xs ++ ys)]) /\
  (∀ {ys : List TTold}, ys.length <= 100000000000 -> (Prim.app 2 16 true).run [.rows 2 [], rL ys] = some [rL ys]) /\
  (∀ {xs ys : List TTold}, xs.length + ys.length <= 100000000000 -> (Prim.app 2 16 false).run [rL xs, rL ys] = some [rL (xs ++ ys)]) /\
  (∀ {ys : List TTold}, ys.length <= 100000000000 -> (Prim.app 2 16 false).run [.rows 2 [], rL ys] = some [rL ys]) /\
  (∀ {xs ys : List TEntry}, xs.length + ys.length <= 100000000000 -> (Prim.app 9 72 true).run [rL xs, rL ys] = some [rL (xs ++ ys)]) /\
  (∀ {ys : List TEntry}, ys.length <= 100000000000 -> (Prim.app 9 72 true).run [.rows 9 [], rL ys] = some [rL ys]) /\
  (∀ {xs ys : List TEntry}, xs.length + ys.length <= 100000000000 -> (Prim.app 9 72 false).run [rL xs, rL ys] = some [rL (xs ++ ys)]) /\
  (∀ {ys : List TEntry}, ys.length <= 100000000000 -> (Prim.app 9 72 false).run [.rows 9 [], rL ys] = some [rL ys]) /\
  (∀ {xs ys : List TClerk}, xs.length + ys.length <= 100000000000 -> (Prim.app 3 72 false).run [rL xs, rL ys] = some [rL (xs ++ ys)]) /\
  (∀ {ys : List TClerk}, ys.length <= 100000000000 -> (Prim.app 3 72 false).run [.rows 3 [], rL ys] = some [rL ys]) /\
  (∀ {xs ys : List TAsk}, xs.length + ys.length <= 100000000000 -> (Prim.app 7 56 true).run [rL xs, rL ys] = some [rL (xs ++ ys)]) /\
  (∀ {ys : List TAsk}, ys.length <= 100000000000 -> (Prim.app 7 56 true).run [.rows 7 [], rL ys] = some [rL ys]) /\
  (∀ {xs ys : List TAsk}, xs.length + ys.length <= 100000000000 -> (Prim.app 7 56 false).run [rL xs, rL ys] = some [rL (xs ++ ys)]) /\
  (∀ {ys : List TAsk}, ys.length <= 100000000000 -> (Prim.app 7 56 false).run [.rows 7 [], rL ys] = some [rL ys]) :=
 ⟨fun h => (rL_app rfl (fun _ _ => rfl) (by unfold boundB; omega)),
  fun h => (rL_app0 rfl (fun _ _ => rfl) (by unfold boundB; omega)),
  fun h => (rL_app rfl (fun h => by cases h) (by unfold boundB; omega)),
  fun h => (rL_app0 rfl (fun h => by cases h) (by unfold boundB; omega)),
  fun h => (rL_app rfl (fun _ _ => rfl) (by unfold boundB; omega)),
  fun h => (rL_app0 rfl (fun _ _ => rfl) (by unfold boundB; omega)),
  fun h => (rL_app rfl (fun h => by cases h) (by unfold boundB; omega)),
  fun h => (rL_app0 rfl (fun h => by cases h) (by unfold boundB; omega)),
  fun h => (rL_app rfl (fun h => by cases h) (by unfold boundB; omega)),
  fun h => (rL_app0 rfl (fun h => by cases h) (by unfold boundB; omega)),
  fun h => (rL_app rfl (fun h => by cases h) (by unfold boundB; omega)),
  fun h => (rL_app0 rfl (fun h => by cases h) (by unfold boundB; omega)),
  fun h => (rL_app rfl (fun h => by cases h) (by unfold boundB; omega)),
  fun h => (rL_app0 rfl (fun h => by cases h) (by unfold boundB; omega)),
  fun h => (rL_app rfl (fun _ _ => rfl) (by unfold boundB; omega)),
  fun h => (rL_app0 rfl (fun _ _ => rfl) (by unfold boundB; omega)),
  fun h => (rL_app rfl (fun h => by cases h) (by unfold boundB; omega)),
  fun h => (rL_app0 rfl (fun h => by cases h) (by unfold boundB; omega)),
  fun h => (rL_app rfl (fun h => by cases h) (by unfold boundB; omega)),
  fun h => (rL_app0 rfl (fun h => by cases h) (by unfold boundB; omega)),
  fun h => (rL_app rfl (fun h => by cases h) (by unfold boundB; omega)),
  fun h => (rL_app0 rfl (fun h => by cases h) (by unfold boundB; omega)),
  fun h => (rL_app rfl (fun h => by cases h) (by unfold boundB; omega)),
  fun h => (rL_app0 rfl (fun h => by cases h) (by unfold boundB; omega)),
  fun h => (rL_app rfl (fun h => by cases h) (by unfold boundB; omega)),
  fun h => (rL_app0 rfl (fun h => by cases h) (by unfold boundB; omega)),
  fun h => (rL_app rfl (fun h => by cases h) (by unfold boundB; omega)),
  fun h => (rL_app0 rfl (fun h => by cases h) (by unfold boundB; omega)),
  fun h => (rL_app rfl (fun _ _ => rfl) (by unfold boundB; omega)),
  fun h => (rL_app0 rfl (fun _ _ => rfl) (by unfold boundB; omega)),
  fun h => (rL_app rfl (fun h => by cases h) (by unfold boundB; omega)),
  fun h => (rL_app0 rfl (fun h => by cases h) (by unfold boundB; omega)),
  fun h => (rL_app rfl (fun _ _ => rfl) (by unfold boundB; omega)),
  fun h => (rL_app0 rfl (fun _ _ => rfl) (by unfold boundB; omega)),
  fun h => (rL_app rfl (fun h => by cases h) (by unfold boundB; omega)),
  fun h => (rL_app0 rfl (fun h => by cases h) (by unfold boundB; omega)),
  fun h => (rL_app rfl (fun _ _ => rfl) (by unfold boundB; omega)),
  fun h => (rL_app0 rfl (fun _ _ => rfl) (by unfold boundB; omega)),
  fun h => (rL_app rfl (fun h => by cases h) (by unfold boundB; omega)),
  fun h => (rL_app0 rfl (fun h => by cases h) (by unfold boundB; omega)),
  fun h => (rL_app rfl (fun h => by cases h) (by unfold boundB; omega)),
  fun h => (rL_app0 rfl (fun h => by cases h) (by unfold boundB; omega)),
  fun h => (rL_app rfl (fun _ _ => rfl) (by unfold boundB; omega)),
  fun h => (rL_app0 rfl (fun _ _ => rfl) (by unfold boundB; omega)),
  fun h => (rL_app rfl (fun h => by cases h) (by unfold boundB; omega)),
  fun h => (rL_app0 rfl (fun h => by cases h) (by unfold boundB; omega))⟩
theorem S_sub : (∀ {xs : List Int} {lo hi : Int}, 0 <= lo -> lo <= hi -> hi <= xs.length -> (Prim.sub 1 true).run [rL xs, i64 lo, i64 hi] = some [rL ((xs.take hi.toNat).drop lo.toNat)]) /\
  (∀ {xs : List Int} {lo hi : Int}, 0 <= lo -> lo <= hi -> hi <= xs.length -> (Prim.sub 1 false).run [rL xs, i64 lo, i64 hi] = some [rL ((xs.take hi.toNat).drop lo.toNat)]) /\
  (∀ {xs : List (List UInt8)} {lo hi : Int}, 0 <= lo -> lo <= hi -> hi <= xs.length -> (Prim.sub 1 true).run [rL xs, i64 lo, i64 hi] = some [rL ((xs.take hi.toNat).drop lo.toNat)]) /\
  (∀ {xs : List (List UInt8)} {lo hi : Int}, 0 <= lo -> lo <= hi -> hi <= xs.length -> (Prim.sub 1 false).run [rL xs, i64 lo, i64 hi] = some [rL ((xs.take hi.toNat).drop lo.toNat)]) /\
  (∀ {xs : List (List Int)} {lo hi : Int}, 0 <= lo -> lo <= hi -> hi <= xs.length -> (Prim.sub 1 false).run [rL xs, i64 lo, i64 hi] = some [rL ((xs.take hi.toNat).drop lo.toNat)]) /\
  (∀ {xs : List (List TRow)} {lo hi : Int}, 0 <= lo -> lo <= hi -> hi <= xs.length -> (Prim.sub 1 false).run [rL xs, i64 lo, i64 hi] = some [rL ((xs.take hi.toNat).drop lo.toNat)]) /\
  (∀ {xs : List (List (List Int))} {lo hi : Int}, 0 <= lo -> lo <= hi -> hi <= xs.length -> (Prim.sub 1 false).run [rL xs, i64 lo, i64 hi] = some [rL ((xs.take hi.toNat).drop lo.toNat)]) /\
  (∀ {xs : List TCmd} {lo hi : Int}, 0 <= lo -> lo <= hi -> hi <= xs.length -> (Prim.sub 5 true).run [rL xs, i64 lo, i64 hi] = some [rL ((xs.take hi.toNat).drop lo.toNat)]) /\
  (∀ {xs : List TCmd} {lo hi : Int}, 0 <= lo -> lo <= hi -> hi <= xs.length -> (Prim.sub 5 false).run [rL xs, i64 lo, i64 hi] = some [rL ((xs.take hi.toNat).drop lo.toNat)]) /\
  (∀ {xs : List TRow} {lo hi : Int}, 0 <= lo -> lo <= hi -> hi <= xs.length -> (Prim.sub 10 false).run [rL xs, i64 lo, i64 hi] = some [rL ((xs.take hi.toNat).drop lo.toNat)]) /\
  (∀ {xs : List TTable} {lo hi : Int}, 0 <= lo -> lo <= hi -> hi <= xs.length -> (Prim.sub 2 false).run [rL xs, i64 lo, i64 hi] = some [rL ((xs.take hi.toNat).drop lo.toNat)]) /\
  (∀ {xs : List TLead} {lo hi : Int}, 0 <= lo -> lo <= hi -> hi <= xs.length -> (Prim.sub 16 false).run [rL xs, i64 lo, i64 hi] = some [rL ((xs.take hi.toNat).drop lo.toNat)]) /\
  (∀ {xs : List TRep} {lo hi : Int}, 0 <= lo -> lo <= hi -> hi <= xs.length -> (Prim.sub 4 false).run [rL xs, i64 lo, i64 hi] = some [rL ((xs.take hi.toNat).drop lo.toNat)]) /\
  (∀ {xs : List TMsg} {lo hi : Int}, 0 <= lo -> lo <= hi -> hi <= xs.length -> (Prim.sub 15 false).run [rL xs, i64 lo, i64 hi] = some [rL ((xs.take hi.toNat).drop lo.toNat)]) /\
  (∀ {xs : List TAsked} {lo hi : Int}, 0 <= lo -> lo <= hi -> hi <= xs.length -> (Prim.sub 7 true).run [rL xs, i64 lo, i64 hi] = some [rL ((xs.take hi.toNat).drop lo.toNat)]) /\
  (∀ {xs : List TAsked} {lo hi : Int}, 0 <= lo -> lo <= hi -> hi <= xs.length -> (Prim.sub 7 false).run [rL xs, i64 lo, i64 hi] = some [rL ((xs.take hi.toNat).drop lo.toNat)]) /\
  (∀ {xs : List TTold} {lo hi : Int}, 0 <= lo -> lo <= hi -> hi <= xs.length -> (Prim.sub 2 true).run [rL xs, i64 lo, i64 hi] = some [rL ((xs.take hi.toNat).drop lo.toNat)]) /\
  (∀ {xs : List TTold} {lo hi : Int}, 0 <= lo -> lo <= hi -> hi <= xs.length -> (Prim.sub 2 false).run [rL xs, i64 lo, i64 hi] = some [rL ((xs.take hi.toNat).drop lo.toNat)]) /\
  (∀ {xs : List TEntry} {lo hi : Int}, 0 <= lo -> lo <= hi -> hi <= xs.length -> (Prim.sub 9 true).run [rL xs, i64 lo, i64 hi] = some [rL ((xs.take hi.toNat).drop lo.toNat)]) /\
  (∀ {xs : List TEntry} {lo hi : Int}, 0 <= lo -> lo <= hi -> hi <= xs.length -> (Prim.sub 9 false).run [rL xs, i64 lo, i64 hi] = some [rL ((xs.take hi.toNat).drop lo.toNat)]) /\
  (∀ {xs : List TClerk} {lo hi : Int}, 0 <= lo -> lo <= hi -> hi <= xs.length -> (Prim.sub 3 false).run [rL xs, i64 lo, i64 hi] = some [rL ((xs.take hi.toNat).drop lo.toNat)]) /\
  (∀ {xs : List TAsk} {lo hi : Int}, 0 <= lo -> lo <= hi -> hi <= xs.length -> (Prim.sub 7 true).run [rL xs, i64 lo, i64 hi] = some [rL ((xs.take hi.toNat).drop lo.toNat)]) /\
  (∀ {xs : List TAsk} {lo hi : Int}, 0 <= lo -> lo <= hi -> hi <= xs.length -> (Prim.sub 7 false).run [rL xs, i64 lo, i64 hi] = some [rL ((xs.take hi.toNat).drop lo.toNat)]) :=
 ⟨fun h0 h1 h2 => (rL_sub rfl (fun _ _ => rfl) h0 h1 h2),
  fun h0 h1 h2 => (rL_sub rfl (fun h => by cases h) h0 h1 h2),
  fun h0 h1 h2 => (rL_sub rfl (fun _ _ => rfl) h0 h1 h2),
  fun h0 h1 h2 => (rL_sub rfl (fun h => by cases h) h0 h1 h2),
  fun h0 h1 h2 => (rL_sub rfl (fun h => by cases h) h0 h1 h2),
  fun h0 h1 h2 => (rL_sub rfl (fun h => by cases h) h0 h1 h2),
  fun h0 h1 h2 => (rL_sub rfl (fun h => by cases h) h0 h1 h2),
  fun h0 h1 h2 => (rL_sub rfl (fun _ _ => rfl) h0 h1 h2),
  fun h0 h1 h2 => (rL_sub rfl (fun h => by cases h) h0 h1 h2),
  fun h0 h1 h2 => (rL_sub rfl (fun h => by cases h) h0 h1 h2),
  fun h0 h1 h2 => (rL_sub rfl (fun h => by cases h) h0 h1 h2),
  fun h0 h1 h2 => (rL_sub rfl (fun h => by cases h) h0 h1 h2),
  fun h0 h1 h2 => (rL_sub rfl (fun h => by cases h) h0 h1 h2),
  fun h0 h1 h2 => (rL_sub rfl (fun h => by cases h) h0 h1 h2),
  fun h0 h1 h2 => (rL_sub rfl (fun _ _ => rfl) h0 h1 h2),
  fun h0 h1 h2 => (rL_sub rfl (fun h => by cases h) h0 h1 h2),
  fun h0 h1 h2 => (rL_sub rfl (fun _ _ => rfl) h0 h1 h2),
  fun h0 h1 h2 => (rL_sub rfl (fun h => by cases h) h0 h1 h2),
  fun h0 h1 h2 => (rL_sub rfl (fun _ _ => rfl) h0 h1 h2),
  fun h0 h1 h2 => (rL_sub rfl (fun h => by cases h) h0 h1 h2),
  fun h0 h1 h2 => (rL_sub rfl (fun h => by cases h) h0 h1 h2),
  fun h0 h1 h2 => (rL_sub rfl (fun _ _ => rfl) h0 h1 h2),
  fun h0 h1 h2 => (rL_sub rfl (fun h => by cases h) h0 h1 h2)⟩
theorem S_eqs : (∀ {a_kind a_id a_src a_dst a_amt b_kind b_id b_src b_dst b_amt : Int}, (Prim.eqs [0, 0, 0, 0, 0]).run [i64 a_kind, i64 a_id, i64 a_src, i64 a_dst, i64 a_amt, i64 b_kind, i64 b_id, i64 b_src, i64 b_dst, i64 b_amt] = some [.bool (decide ((⟨a_kind, a_id, a_src, a_dst, a_amt⟩ : TCmd) = ⟨b_kind, b_id, b_src, b_dst, b_amt⟩))]) /\
  (∀ {a_code a_sum b_code b_sum : Int}, (Prim.eqs [0, 0]).run [i64 a_code, i64 a_sum, i64 b_code, i64 b_sum] = some [.bool (decide ((⟨a_code, a_sum⟩ : TTold) = ⟨b_code, b_sum⟩))]) :=
 ⟨(fun {a_kind a_id a_src a_dst a_amt b_kind b_id b_src b_dst b_amt} => eqs_ints [a_kind, a_id, a_src, a_dst, a_amt] [b_kind, b_id, b_src, b_dst, b_amt] rfl (by simp [TCmd.mk.injEq])),
  (fun {a_code a_sum b_code b_sum} => eqs_ints [a_code, a_sum] [b_code, b_sum] rfl (by simp [TTold.mk.injEq]))⟩
end Go.Proofs.YtdpfilpckndhcaaGreatDoor.Rf

namespace Go.Proofs.YtdpfilpckndhcaaGreatDoor.Rf
set_option linter.unusedVariables false
set_option linter.unusedSimpArgs false
section
variable {T : Nat -> Ent} {β : Type} {α : Type} [Inhabited α]
inductive Rd1 (σ : Type) where
 | go (s : σ)
 | out (r : Kind × List D)
def foldX {σ : Type} (f : Nat -> α -> σ -> Rd1 σ) : Nat -> List α -> σ -> Rd1 σ
 | _, [], s => .go s
 | i, x :: xs, s => match f i x s with
  | .go s' => foldX f (i + 1) xs s'
  | .out r => .out r
def rndK {σ : Type} (vs : Int -> σ -> List D) (i : Int) : Rd1 σ -> Kind × List D
 | .go s => (.cont, vs (i + 1) s)
 | .out r => r
theorem loopX {σ : Type} {body : Tm β} {ρ : List D} {init : List Atom} (xs : List α) (vs : Int -> σ -> List D) (s0 : σ) (f : Nat -> α -> σ -> Rd1 σ) (inv : Nat -> σ -> Prop) (fin : σ -> Kind × List D)
  (h0 : init.map (·.val ρ) = vs 0 s0) (hi : inv 0 s0)
  (h1 : ∀ (i : Nat) s, i < xs.length -> inv i s -> Er T body (ρ ++ vs i s) = some (rndK vs i (f i (atI xs i) s)) /\ (∀ s', f i (atI xs i) s = .go s' -> inv (i + 1) s') /\ ∀ r, f i (atI xs i) s = .out r -> r.1 ≠ .cont)
  (h2 : ∀ s, inv xs.length s -> Er T body (ρ ++ vs xs.length s) = some (fin s) /\ (fin s).1 ≠ .cont) :
  ∃ r, Er T (.loop init body) ρ = some r /\ ((∃ s, foldX f 0 xs s0 = .go s /\ inv xs.length s /\ r = fin s) \/ foldX f 0 xs s0 = .out r) := by
 have key := loopR (T := T) (body := body) (ρ := ρ) (γ := Nat × σ) (fun c => xs.length - c.1) (fun c => c.1 <= xs.length /\ inv c.1 c.2 /\ foldX f c.1 (xs.drop c.1) c.2 = foldX f 0 xs s0) (fun c => vs (c.1 : Int) c.2)
  (fun r => (∃ s, foldX f 0 xs s0 = .go s /\ inv xs.length s /\ r = fin s) \/ foldX f 0 xs s0 = .out r)
  (fun ⟨i, s⟩ ⟨hle, hv, hf⟩ => by
   simp only at hle hv hf ⊢
   rcases Nat.lt_or_ge i xs.length with hlt | hge
   ·obtain ⟨h3, h4, h5⟩ := h1 i s hlt hv
    have hd : xs.drop i = atI xs i :: xs.drop (i + 1) := by
     rw [List.drop_eq_getElem_cons hlt, atI_get hlt]
    rw [hd, foldX] at hf
    refine ⟨_, h3, ?_⟩
    cases e : f i (atI xs i) s with
    | go s' =>
     rw [e] at hf
     exact .inl ⟨rfl, (i + 1, s'), ⟨by simp only; omega, h4 s' e, hf⟩, by simp only; omega, rfl⟩
    | out r =>
     rw [e] at hf
     exact .inr ⟨h5 r e, .inr hf.symm⟩
   ·obtain rfl : i = xs.length := by omega
    obtain ⟨h3, h4⟩ := h2 s hv
    rw [List.drop_length, foldX] at hf
    exact ⟨_, h3, .inr ⟨h4, .inl ⟨s, hf.symm, hv, rfl⟩⟩⟩)
  xs.length (0, s0) (by simp) ⟨by simp, hi, by simp⟩ init h0
 exact key
theorem scanX {body : Tm β} {ρ : List D} (j : Nat) (n : Nat) (p : Nat -> Bool) (r : List D)
  (h1 : ∀ i : Nat, i < n -> p i = true -> Er T body (ρ ++ [i64 i]) = some (.cont, [i64 ((i : Int) + 1)]))
  (h2 : ∀ i : Nat, i < n -> p i = false -> Er T body (ρ ++ [i64 i]) = some (.ret, r))
  (h3 : Er T body (ρ ++ [i64 n]) = some (.yield j, [])) :
  Er T (.loop [.c (i64 0)] body) ρ = forkT (allB p n) (some (.yield j, [])) (some (.ret, r)) := by
 have key := loopR (T := T) (body := body) (ρ := ρ) (fun i => n - i) (fun i => i <= n /\ ∀ j, j < i -> p j = true) (fun i => [i64 (i : Nat)])
  (fun q => (∀ j, j < n -> p j = true) /\ q = (.yield j, []) \/ (∃ j, j < n /\ p j = false) /\ q = (.ret, r))
  (fun i ⟨hi, hall⟩ => by
   rcases Nat.lt_or_ge i n with hlt | hge
   ·cases e : p i with
    | true => exact ⟨_, h1 i hlt e, .inl ⟨rfl, i + 1, ⟨by omega, fun j hj => by
      rcases Nat.lt_or_ge j i with h | h
      ·exact hall j h
      ·obtain rfl : j = i := by omega
       exact e⟩, by omega, rfl⟩⟩
    | false => exact ⟨_, h2 i hlt e, .inr ⟨by simp, .inr ⟨⟨i, hlt, e⟩, rfl⟩⟩⟩
   ·obtain rfl : i = n := by omega
    exact ⟨_, h3, .inr ⟨by simp, .inl ⟨hall, rfl⟩⟩⟩)
  n 0 (by omega) ⟨by omega, fun j hj => by omega⟩ [.c (i64 0)] (by simp [Atom.val])
 obtain ⟨q, h4, h5⟩ := key
 rw [h4]
 rcases h5 with ⟨h6, rfl⟩ | ⟨h6, rfl⟩
 ·rw [allB_true.2 h6]; rfl
 ·rw [allB_false.2 h6]; rfl
theorem allB_all (xs : List α) (p : α -> Bool) : allB (fun i => p (atI xs i)) xs.length = xs.all p := by
 cases e : xs.all p with
 | true =>
  rw [List.all_eq_true] at e
  rw [allB_true]
  intro i hi
  rw [atI_get hi]
  exact e _ (List.getElem_mem hi)
 | false =>
  rw [List.all_eq_false] at e
  obtain ⟨x, hx, hp⟩ := e
  obtain ⟨i, hi, rfl⟩ := List.getElem_of_mem hx
  exact allB_false.2 ⟨i, hi, by rw [atI_get hi]; simpa using hp⟩
theorem allB_eq [DecidableEq α] {xs ys : List α} (hl : xs.length = ys.length) : allB (fun i => decide (atI xs i = atI ys i)) xs.length = decide (xs = ys) := by
 by_cases e : xs = ys
 ·subst e
  rw [decide_eq_true rfl, allB_true]
  exact fun i _ => decide_eq_true rfl
 ·rw [decide_eq_false e]
  cases h : allB (fun i => decide (atI xs i = atI ys i)) xs.length with
  | false => rfl
  | true =>
   rw [allB_true] at h
   refine absurd (List.ext_getElem hl fun i h1 h2 => ?_) e
   have := of_decide_eq_true (h i h1)
   rwa [atI_get h1, atI_get h2] at this
theorem eq_len {xs ys : List α} [DecidableEq α] (h : ¬ xs.length = ys.length) : decide (xs = ys) = false := decide_eq_false fun e => h (by rw [e])
theorem allX {body : Tm β} {ρ : List D} (j : Nat) (xs : List α) (p : α -> Bool) (r : List D)
  (h1 : ∀ i : Nat, i < xs.length -> InB xs (i : Int) -> decide ((i : Int) < xs.length) = true -> p (atI xs i) = true -> Er T body (ρ ++ [i64 i]) = some (.cont, [i64 ((i : Int) + 1)]))
  (h2 : ∀ i : Nat, i < xs.length -> InB xs (i : Int) -> decide ((i : Int) < xs.length) = true -> p (atI xs i) = false -> Er T body (ρ ++ [i64 i]) = some (.ret, r))
  (h3 : decide ((xs.length : Int) < xs.length) = false -> Er T body (ρ ++ [i64 xs.length]) = some (.yield j, [])) :
  Er T (.loop [.c (i64 0)] body) ρ = forkT (xs.all p) (some (.yield j, [])) (some (.ret, r)) := by
 rw [scanX j xs.length (fun i => p (atI xs i)) r (fun i hi hp => h1 i hi (InB_nat.2 hi) (by simp; omega) hp) (fun i hi hp => h2 i hi (InB_nat.2 hi) (by simp; omega) hp) (h3 (by simp)), allB_all]
omit [Inhabited α] in
theorem scanF {body : Tm β} {ρ : List D} (j : Nat) (n : Nat) (p : Nat -> Bool) (r : List D)
  (h1 : ∀ i : Nat, i < n -> decide ((i : Int) < n) = true -> Er T body (ρ ++ [i64 i]) = forkT (p i) (some (.cont, [i64 ((i : Int) + 1)])) (some (.ret, r)))
  (h3 : decide ((n : Int) < n) = false -> Er T body (ρ ++ [i64 n]) = some (.yield j, [])) :
  Er T (.loop [.c (i64 0)] body) ρ = forkT (allB p n) (some (.yield j, [])) (some (.ret, r)) :=
 scanX j n p r (fun i hi hp => by rw [h1 i hi (by simp; omega), hp]; rfl) (fun i hi hp => by rw [h1 i hi (by simp; omega), hp]; rfl) (h3 (by simp))
def ixF (p : α -> Bool) (xs : List α) : Int := match xs.findIdx? p with
 | some i => i
 | none => -1
omit [Inhabited α] in
theorem ixF_any (p : α -> Bool) (xs : List α) : decide (0 <= ixF p xs) = xs.any p := by
 unfold ixF
 cases h : xs.findIdx? p with
 | none =>
  rw [List.findIdx?_eq_none_iff] at h
  have : xs.any p = false := by
   rw [List.any_eq_false]
   exact fun x hx => by simp [h x hx]
  rw [this]; rfl
 | some i =>
  have : xs.any p = true := by
   rw [List.findIdx?_eq_some_iff_getElem] at h
   obtain ⟨hi, hp, -⟩ := h
   rw [List.any_eq_true]
   exact ⟨_, List.getElem_mem hi, hp⟩
  rw [this]; simp
theorem findX {body : Tm β} {ρ : List D} (j : Nat) (xs : List α) (p : α -> Bool) (rf : Int -> List D)
  (h1 : ∀ i : Nat, i < xs.length -> InB xs (i : Int) -> decide ((i : Int) < xs.length) = true -> p (atI xs i) = true -> Er T body (ρ ++ [i64 i]) = some (.ret, rf i))
  (h2 : ∀ i : Nat, i < xs.length -> InB xs (i : Int) -> decide ((i : Int) < xs.length) = true -> p (atI xs i) = false -> Er T body (ρ ++ [i64 i]) = some (.cont, [i64 ((i : Int) + 1)]))
  (h3 : decide ((xs.length : Int) < xs.length) = false -> Er T body (ρ ++ [i64 xs.length]) = some (.yield j, [])) :
  Er T (.loop [.c (i64 0)] body) ρ = forkT (xs.any p) (some (.ret, rf (ixF p xs))) (some (.yield j, [])) := by
 have hall : ∀ (i : Nat) (ys : List α), foldX (fun (i : Nat) x (_ : Unit) => if p x then Rd1.out (.ret, rf i) else .go ()) i ys () = match ys.findIdx? p with | some k => .out (.ret, rf ((i + k : Nat) : Int)) | none => .go () := by
  intro i ys
  induction ys generalizing i with
  | nil => rfl
  | cons y ys ih =>
   rw [foldX, List.findIdx?_cons]
   cases p y with
   | true => simp
   | false =>
    simp only [Bool.false_eq_true, if_false]
    rw [ih (i + 1)]
    cases ys.findIdx? p with
    | none => rfl
    | some k => simp only [Option.map_some]; congr 4; omega
 obtain ⟨q, h4, h5⟩ := loopX (T := T) (body := body) (ρ := ρ) (init := [.c (i64 0)]) xs (fun i (_ : Unit) => [i64 i]) () (fun i x _ => if p x then .out (.ret, rf i) else .go ()) (fun _ _ => True) (fun _ => (.yield j, [])) rfl trivial
  (fun i _ hi _ => by
   cases e : p (atI xs i) with
   | true => exact ⟨by rw [h1 i hi (InB_nat.2 hi) (by simp; omega) e]; rfl, fun _ _ => trivial, fun r h => by simp at h; rw [<- h]; simp⟩
   | false => exact ⟨by rw [h2 i hi (InB_nat.2 hi) (by simp; omega) e]; rfl, fun _ _ => trivial, fun r h => by simp at h⟩)
  (fun _ _ => ⟨h3 (by simp), by simp⟩)
 rw [h4, <- ixF_any]
 rw [hall] at h5
 unfold ixF
 cases e : xs.findIdx? p with
 | none =>
  rw [e] at h5
  rcases h5 with ⟨s, -, -, rfl⟩ | h5
  ·rfl
  ·simp at h5
 | some k =>
  rw [e] at h5
  rcases h5 with ⟨s, h5, -⟩ | h5
  ·simp at h5
  ·simp only [Nat.zero_add, Rd1.out.injEq] at h5
   rw [<- h5]
   simp [forkT]
theorem at_mem {xs : List α} {i : Nat} (h : i < xs.length) : atI xs (i : Int) ∈ xs := by rw [atI_get h]; exact List.getElem_mem h
omit [Inhabited α] in
theorem whileE {γ : Type} {body : Tm β} {ρ : List D} {init : List Atom} (r : Kind × List D) (m : γ -> Nat) (inv : γ -> Prop) (vs : γ -> List D) (c0 : γ) (h0 : init.map (·.val ρ) = vs c0) (hi : inv c0) (hr : r.1 ≠ .cont)
  (h : ∀ c, inv c -> (∃ c', Er T body (ρ ++ vs c) = some (.cont, vs c') /\ inv c' /\ m c' < m c) \/ Er T body (ρ ++ vs c) = some r) : Er T (.loop init body) ρ = some r := by
 obtain ⟨q, h1, rfl⟩ := loopR (T := T) (body := body) (ρ := ρ) m inv vs (fun q => q = r)
  (fun c hc => by
   rcases h c hc with ⟨c', h2, h3, h4⟩ | h2
   ·exact ⟨_, h2, .inl ⟨rfl, c', h3, h4, rfl⟩⟩
   ·exact ⟨_, h2, .inr ⟨hr, rfl⟩⟩) (m c0) c0 (Nat.le_refl _) hi init h0
 exact h1
end
theorem take_at {α : Type} [Inhabited α] {xs : List α} {i : Nat} (h : i < xs.length) : xs.take i ++ [atI xs (i : Int)] = xs.take (i + 1) := by rw [List.take_succ_eq_append_getElem h, atI_get h]
theorem SQ : (∀ {a b : Int}, -9223372036854775808 <= a + b -> a + b <= 9223372036854775807 -> (Prim.bin .add).run [i64 a, i64 b] = some [i64 (a + b)]) /\
  (∀ {a b : Int}, -9223372036854775808 <= a - b -> a - b <= 9223372036854775807 -> (Prim.bin .sub).run [i64 a, i64 b] = some [i64 (a - b)]) /\
  (∀ {a b : Int}, 0 <= a -> a <= 9223372036854775807 -> 0 < b -> (Prim.bin .quo).run [i64 a, i64 b] = some [i64 (a / b)]) /\ (∀ {a b : Int}, 0 <= a -> 0 < b -> (Prim.bin .rem).run [i64 a, i64 b] = some [i64 (a % b)]) :=
 ⟨run_add, run_sub, run_quoI, run_remI⟩
end Go.Proofs.YtdpfilpckndhcaaGreatDoor.Rf

namespace Go.Proofs.YtdpfilpckndhcaaGreatDoor.Rf
set_option linter.unusedVariables false
set_option linter.unusedSimpArgs false
theorem S_upd : (∀ {α : Type} [Inhabited α] {xs : List α} {k : Int} {a : α}, InB xs k -> atI (setI xs k a) k = a) /\ (∀ {α : Type} {xs : List α} {k : Int} {a b : α}, setI (setI xs k a) k b = setI xs k b) /\
  (∀ {α : Type} {xs : List α} {j k : Int} {a : α}, InB (setI xs j a) k = InB xs k) /\ (∀ {α : Type} {xs : List α} {j : Int} {a : α}, (setI xs j a).length = xs.length) := by
 refine ⟨?_, ?_, ?_, ?_⟩
 ·intro α _ xs k a h
  have := h.lt
  rw [setI, atI, List.getD_eq_getElem?_getD, List.getElem?_set_self this]; rfl
 ·intro α xs k a b
  rw [setI, setI, setI, List.set_set]
 ·intro α xs j k a
  unfold InB setI
  rw [List.length_set]
 ·intro α xs j a
  exact List.length_set ..
section
variable {T : Nat -> Ent} {β : Type} {α : Type} [Inhabited α]
end
end Go.Proofs.YtdpfilpckndhcaaGreatDoor.Rf

namespace Go.Proofs.YtdpfilpckndhcaaGreatDoor.Rf
set_option linter.unusedVariables false
set_option linter.unusedSimpArgs false
end Go.Proofs.YtdpfilpckndhcaaGreatDoor.Rf

namespace Go.Proofs.YtdpfilpckndhcaaGreatDoor.Rf
set_option linter.unusedVariables false
set_option linter.unusedSimpArgs false
theorem SZ : (∀ b : Bool, (b && true) = b) /\ (∀ b : Bool, (true && b) = b) /\ (∀ b : Bool, (b && false) = false) /\ (∀ b : Bool, (false && b) = false) /\
  (∀ b : Bool, (b || true) = true) /\ (∀ b : Bool, (true || b) = true) /\ (∀ b : Bool, (b || false) = b) /\ (∀ b : Bool, (false || b) = b) /\ ((!true) = false) /\ ((!false) = true) :=
 ⟨Bool.and_true, Bool.true_and, Bool.and_false, Bool.false_and, Bool.or_true, Bool.true_or, Bool.or_false, Bool.false_or, rfl, rfl⟩
theorem fork_in {γ : Type} {a r : γ} (h : forkT true a r = r) : a = r := h
theorem S0 : type_of% (And.intro Bool.false_eq_true (And.intro @ite_true.{1} (And.intro @ite_false.{1} (And.intro @SA (And.intro @SB (And.intro @SC (And.intro @SP (And.intro @SQ (And.intro @SZ (And.intro @beq_self_eq_true.{0} (And.intro @decide_true (And.intro @decide_false (And.intro @cast1 @S_eta))))))))))))) := And.intro Bool.false_eq_true (And.intro @ite_true.{1} (And.intro @ite_false.{1} (And.intro @SA (And.intro @SB (And.intro @SC (And.intro @SP (And.intro @SQ (And.intro @SZ (And.intro @beq_self_eq_true.{0} (And.intro @decide_true (And.intro @decide_false (And.intro @cast1 @S_eta))))))))))))
theorem bool_fin {x y : Bool} (h : x = true ↔ y = true) : some [D.bool x] = some [D.bool y] := by rw [Bool.eq_iff_iff.2 h]
def isGrp (n : Int) : Bool := n == 3 || n == 5
theorem isGrp_rng {n : Int} (h : isGrp n = true) : n = 3 \/ n = 5 := by simpa [isGrp] using h
def inst (n rep no : Int) : Bool := inR rep 0 (n - 1) && inR no 1 6
def cmdOk (c : TCmd) : Bool :=
 if c.kind == 0 then decide (c = ⟨0, 0, 0, 0, 0⟩) else if c.kind == 1 then inR c.id 1 999 && inR c.src 0 3 && inR c.dst 0 3 && !(c.src == c.dst) && inR c.amt 1 1000
 else c.kind == 2 && inR c.id 1 999 && inR c.src 0 3 && c.dst == 0 && c.amt == 0
def cmdCode (c : TCmd) : Int :=
 if !inR c.src 0 3 || (c.kind == 1 && !inR c.dst 0 3) then 4 else if c.kind == 1 && c.src == c.dst then 5 else if !inR c.id 1 999 || (c.kind == 1 && !inR c.amt 1 1000) then 6 else 0
def attrOk (n : Int) (a : TAttr) : Bool := inR a.seq 0 999 && (a.deps.length : Int) == n && a.deps.all fun x => inR x 0 6
def none0 (n : Int) : TAttr := ⟨0, List.replicate n.toNat 0⟩
def rowOk (n : Int) (r : TRow) : Bool :=
 inR r.ballot 0 9999 && inR r.vote 0 r.ballot && inR r.state 0 3 && (if r.state == 0 then r.vote == 0 && decide (r.cmd = ⟨0, 0, 0, 0, 0⟩) && decide (r.attr = none0 n) else cmdOk r.cmd && attrOk n r.attr)
def msgOk (n : Int) (m : TMsg) : Bool :=
  isGrp n && inR m.kind 1 7 && inst n m.rep m.no && inR m.src 0 (n - 1) && inR m.dst 0 (n - 1) && !(m.src == m.dst) && inR m.ballot 0 9999 &&
  (if m.kind == 7 then !(m.state == 3) && rowOk n ⟨m.ballot, m.vote, m.state, m.cmd, m.attr⟩
   else !(m.kind == 5 && !(m.ballot == 0)) && m.vote == 0 && m.state == 0 && cmdOk m.cmd && attrOk n m.attr &&
     (if m.kind == 2 then decide (m.cmd = ⟨0, 0, 0, 0, 0⟩) else if m.kind == 4 || m.kind == 6 then decide (m.cmd = ⟨0, 0, 0, 0, 0⟩) && decide (m.attr = none0 n) else true))
theorem none0_ok {n : Int} (h : isGrp n = true) : attrOk n (none0 n) = true := by
 rcases isGrp_rng h with rfl | rfl <;> rfl
theorem cmdZ_ok {c : TCmd} (h : decide (c = ⟨0, 0, 0, 0, 0⟩) = true) : cmdOk c = true := by
 rw [of_decide_eq_true h]; rfl
theorem cmdCode0 {c : TCmd} : (cmdCode c == 0) = (inR c.src 0 3 && inR c.id 1 999 && (!(c.kind == 1) || (inR c.dst 0 3 && !(c.src == c.dst) && inR c.amt 1 1000))) := by
 unfold cmdCode
 cases inR c.src 0 3 <;> cases inR c.id 1 999 <;> cases c.kind == 1 <;> cases inR c.dst 0 3 <;> cases c.src == c.dst <;> cases inR c.amt 1 1000 <;> rfl
def row0 (n : Int) : TRow := ⟨0, 0, 0, ⟨0, 0, 0, 0, 0⟩, none0 n⟩
theorem S_nil : (rL ([] : List Int) = .rows 1 []) /\ (rL ([] : List (List Int)) = .rows 1 []) /\ (rL ([] : List TRow) = .rows 10 []) /\ (rL ([] : List (List TRow)) = .rows 1 []) /\ (rL ([] : List TLead) = .rows 16 []) /\ (rL ([] : List TMsg) = .rows 15 []) /\
  (rL ([] : List TAsk) = .rows 7 []) /\ (rL ([] : List TTold) = .rows 2 []) := ⟨rfl, rfl, rfl, rfl, rfl, rfl, rfl, rfl⟩
theorem inst_rng {n rep no : Int} (h : inst n rep no = true) : 0 <= rep /\ rep <= n - 1 /\ 1 <= no /\ no <= 6 := by
 simp only [inst, inR, Bool.and_eq_true, decide_eq_true_eq] at h
 omega
theorem rowOk_cmd {n : Int} {r : TRow} (h : rowOk n r = true) : cmdOk r.cmd = true := by
 simp only [rowOk, Bool.and_eq_true] at h
 have h3 := h.2
 split at h3
 ·simp only [Bool.and_eq_true] at h3
  exact cmdZ_ok h3.1.2
 ·simp only [Bool.and_eq_true] at h3
  exact h3.1
theorem at_memI {α : Type} [Inhabited α] {xs : List α} {k : Int} (h : InB xs k) : atI xs k ∈ xs := by
 have h2 := h.lt
 have e : ((k.toNat : Nat) : Int) = k := by unfold InB at h; omega
 rw [<- e]
 exact at_mem h2
def ext (n : Int) (l : List TRow) (no : Int) : List TRow := l ++ List.replicate (no - l.length).toNat (row0 n)
def nb (b me : Int) : Int := if b < 8 + me then 8 + me else b + 1 + (me - b - 1) % 8
end Go.Proofs.YtdpfilpckndhcaaGreatDoor.Rf

namespace Go.Proofs.YtdpfilpckndhcaaGreatDoor.Rf
set_option linter.unusedVariables false
set_option linter.unusedSimpArgs false
theorem setI_len {α : Type} {xs : List α} {k : Int} {a : α} : (setI xs k a).length = xs.length := List.length_set ..
end Go.Proofs.YtdpfilpckndhcaaGreatDoor.Rf

namespace Go.Proofs.YtdpfilpckndhcaaGreatDoor.Rf
set_option linter.unusedVariables false
set_option linter.unusedSimpArgs false
end Go.Proofs.YtdpfilpckndhcaaGreatDoor.Rf

namespace Go.Proofs.YtdpfilpckndhcaaGreatDoor.Rf
set_option linter.unusedVariables false
set_option linter.unusedSimpArgs false
end Go.Proofs.YtdpfilpckndhcaaGreatDoor.Rf

namespace Go.Proofs.YtdpfilpckndhcaaGreatDoor.Rf
set_option linter.unusedVariables false
set_option linter.unusedSimpArgs false
end Go.Proofs.YtdpfilpckndhcaaGreatDoor.Rf

namespace Go.Proofs.YtdpfilpckndhcaaGreatDoor.Rf
set_option linter.unusedVariables false
set_option linter.unusedSimpArgs false
section
variable {T : Nat -> Ent} {β : Type}
end
end Go.Proofs.YtdpfilpckndhcaaGreatDoor.Rf

namespace Go.Proofs.YtdpfilpckndhcaaGreatDoor.Rf
set_option linter.unusedVariables false
set_option linter.unusedSimpArgs false
end Go.Proofs.YtdpfilpckndhcaaGreatDoor.Rf

namespace Go.Proofs.YtdpfilpckndhcaaGreatDoor.Rf
set_option linter.unusedVariables false
set_option linter.unusedSimpArgs false
end Go.Proofs.YtdpfilpckndhcaaGreatDoor.Rf

namespace Go.Proofs.YtdpfilpckndhcaaGreatDoor.Rf
set_option linter.unusedVariables false
set_option linter.unusedSimpArgs false
def isBytes (d : D) : Prop := WT (.sl 1 [.int .u8]) d
def bLen (d : D) : Nat := match d with
 | .rows _ rs => rs.length
 | _ => 0
theorem bytes_len {d : D} (h : isBytes d) : Prim.len.run [d] = some [i64 (bLen d)] /\ bLen d <= 140737488351232 := by
 obtain ⟨rs, rfl, h1, h2⟩ := h
 refine ⟨rfl, ?_⟩
 simp only [bLen]
 have : reachBytes = 140737488351232 := rfl
 omega
theorem bytes_at {d : D} (h : isBytes d) {k : Int} (h0 : 0 <= k) (h1 : k < (bLen d : Nat)) : Prim.inb.run [d, i64 k] = some [] /\ ∃ b, (Prim.row 1 0 [true]).run [d, i64 k] = some [.int .u8 b] /\ 0 <= b /\ b <= 255 := by
 obtain ⟨rs, rfl, h2, h3⟩ := h
 simp only [bLen] at h1
 refine ⟨by simp only [Prim.run]; rw [if_pos ⟨h0, h1⟩], ?_⟩
 have hk : k.toNat < rs.length := by omega
 have hm := h3 _ (List.getElem_mem hk)
 simp only [WTs] at hm
 obtain ⟨d1, r1, e, ⟨b, rfl, hb1, hb2⟩, rfl⟩ := hm
 refine ⟨b, ?_, hb1, hb2⟩
 simp only [Prim.run]
 rw [if_pos ⟨rfl, h0⟩, List.getElem?_eq_getElem hk, e]
 rfl
def u64 (n : Int) : D := .int .u64 n
theorem u_mul {a b : Int} : (Prim.bin .mul).run [u64 a, .int .u64 b] = some [u64 (IntKind.u64.wrap (a * b))] := rfl
theorem u_add {a b : Int} : (Prim.bin .add).run [u64 a, u64 b] = some [u64 (IntKind.u64.wrap (a + b))] := rfl
theorem u_addc {a b : Int} : (Prim.bin .add).run [u64 a, .int .u64 b] = some [u64 (IntKind.u64.wrap (a + b))] := rfl
theorem u_shr {a : Int} : (Prim.bin .shr).run [u64 a, .int .u64 40] = some [u64 (a.fdiv (2 ^ 40))] := rfl
theorem u_and {a : Int} : (Prim.bin .and).run [u64 a, .int .u64 255] = some [u64 (IntKind.u64.wrap (BitVec.ofInt 64 a &&& BitVec.ofInt 64 255).toNat)] := rfl
theorem u_conv {a : Int} : (Prim.conv .u64).run [i64 a] = some [u64 (IntKind.u64.wrap a)] := rfl
theorem u8_conv {a : Int} (h0 : 0 <= a) (h1 : a <= 255) : (Prim.conv .i64).run [.int .u8 a] = some [i64 a] := by
 show some [D.int .i64 (IntKind.i64.wrap a)] = _
 rw [wrap_i64 (by omega) (by omega)]
def lowV (a : Int) : Int := IntKind.i64.wrap (IntKind.u64.wrap (BitVec.ofInt 64 a &&& BitVec.ofInt 64 255).toNat)
theorem u_low {a : Int} : (Prim.conv .i64).run [u64 (IntKind.u64.wrap (BitVec.ofInt 64 a &&& BitVec.ofInt 64 255).toNat)] = some [i64 (lowV a)] := rfl
theorem lowV_rng (a : Int) : 0 <= lowV a /\ lowV a <= 255 := by
 unfold lowV
 have h1 : (BitVec.ofInt 64 a &&& BitVec.ofInt 64 255).toNat <= 255 := by
  rw [BitVec.toNat_and]
  exact Nat.and_le_right
 generalize (BitVec.ofInt 64 a &&& BitVec.ofInt 64 255).toNat = n at h1
 have h2 : IntKind.u64.wrap (n : Int) = n := IntWalk.u64_in n ⟨by omega, by omega⟩
 rw [h2, wrap_i64 (by omega) (by omega)]
 omega
theorem run_rem' {a b : Int} (h0 : 0 <= a) (hb : 0 < b) : (Prim.bin .rem).run [i64 a, i64 b] = some [i64 (a % b)] := by
 simp only [Prim.run, binD, intOp, if_true]
 rw [if_neg (by omega)]
 rw [Int.tmod_eq_emod_of_nonneg h0]
 rfl
theorem loopEx {T : Nat -> Ent} {β γ : Type} {body : Tm β} {ρ : List D} {init : List Atom} (m : γ -> Nat) (inv : γ -> Prop) (vs : γ -> List D) (Q : Kind × List D -> Prop) (c0 : γ) (h0 : init.map (·.val ρ) = vs c0) (hi : inv c0)
  (h : ∀ c, inv c -> (∃ c', Er T body (ρ ++ vs c) = some (.cont, vs c') /\ inv c' /\ m c' < m c) \/ (∃ q, Er T body (ρ ++ vs c) = some q /\ q.1 ≠ .cont /\ Q q)) : ∃ q, Er T (.loop init body) ρ = some q /\ Q q :=
 loopR (T := T) (body := body) (ρ := ρ) m inv vs Q (fun c hc => by
  rcases h c hc with ⟨c', h2, h3, h4⟩ | ⟨q, h2, h3, h4⟩
  ·exact ⟨_, h2, .inl ⟨rfl, c', h3, h4, rfl⟩⟩
  ·exact ⟨_, h2, .inr ⟨h3, h4⟩⟩) (m c0) c0 (Nat.le_refl _) hi init h0
theorem S_u64 : (∀ {a b : Int}, (Prim.bin .mul).run [u64 a, .int .u64 b] = some [u64 (IntKind.u64.wrap (a * b))]) /\ (∀ {a b : Int}, (Prim.bin .add).run [u64 a, u64 b] = some [u64 (IntKind.u64.wrap (a + b))]) /\
  (∀ {a b : Int}, (Prim.bin .add).run [u64 a, .int .u64 b] = some [u64 (IntKind.u64.wrap (a + b))]) /\ (∀ {a : Int}, (Prim.bin .shr).run [u64 a, .int .u64 40] = some [u64 (a.fdiv (2 ^ 40))]) /\
  (∀ {a : Int}, (Prim.bin .and).run [u64 a, .int .u64 255] = some [u64 (IntKind.u64.wrap (BitVec.ofInt 64 a &&& BitVec.ofInt 64 255).toNat)]) /\ (∀ {a : Int}, (Prim.conv .u64).run [i64 a] = some [u64 (IntKind.u64.wrap a)]) /\
  (∀ {a : Int}, (Prim.conv .i64).run [u64 (IntKind.u64.wrap (BitVec.ofInt 64 a &&& BitVec.ofInt 64 255).toNat)] = some [i64 (lowV a)]) := ⟨u_mul, u_add, u_addc, u_shr, u_and, u_conv, u_low⟩
end Go.Proofs.YtdpfilpckndhcaaGreatDoor.Rf

namespace Go.Proofs.YtdpfilpckndhcaaGreatDoor.Rf
set_option linter.unusedVariables false
set_option linter.unusedSimpArgs false
theorem attrOk_of {n : Int} {a : TAttr} (h1 : 0 <= a.seq /\ a.seq <= 999) (h2 : (a.deps.length : Int) = n) (h3 : ∀ k : Nat, k < a.deps.length -> 0 <= atI a.deps (k : Int) /\ atI a.deps (k : Int) <= 6) : attrOk n a = true := by
 simp only [attrOk, Bool.and_eq_true, beq_iff_eq, List.all_eq_true]
 refine ⟨⟨by simp [inR, h1], h2⟩, fun x hx => ?_⟩
 obtain ⟨k, hk, rfl⟩ := List.getElem_of_mem hx
 have := h3 k hk
 rw [atI_get hk] at this
 simp [inR, this]
theorem rowOk_attr {n : Int} {r : TRow} (h : rowOk n r = true) (hg : isGrp n = true) : attrOk n r.attr = true := by
 simp only [rowOk, Bool.and_eq_true] at h
 have h3 := h.2
 have hn := isGrp_rng hg
 split at h3
 ·simp only [Bool.and_eq_true, decide_eq_true_eq] at h3
  rw [h3.2]
  refine attrOk_of (by simp [none0]) (by simp [none0]; omega) fun k hk => ?_
  rw [atI_get hk]
  simp [none0]
 ·simp only [Bool.and_eq_true] at h3
  exact h3.2
end Go.Proofs.YtdpfilpckndhcaaGreatDoor.Rf

namespace Go.Proofs.YtdpfilpckndhcaaGreatDoor.Rf
set_option linter.unusedVariables false
set_option linter.unusedSimpArgs false
end Go.Proofs.YtdpfilpckndhcaaGreatDoor.Rf

namespace Go.Proofs.YtdpfilpckndhcaaGreatDoor.Rf
set_option linter.unusedVariables false
set_option linter.unusedSimpArgs false
theorem inR_iff {x lo hi : Int} : inR x lo hi = true ↔ lo <= x /\ x <= hi := by simp [inR]
end Go.Proofs.YtdpfilpckndhcaaGreatDoor.Rf

namespace Go.Proofs.YtdpfilpckndhcaaGreatDoor.Rf
set_option linter.unusedVariables false
set_option linter.unusedSimpArgs false
def splitB (b : UInt8) : List UInt8 -> List (List UInt8)
 | [] => [[]]
 | c :: r => if c = b then [] :: splitB b r else match splitB b r with
  | [] => [[c]]
  | w :: ws => (c :: w) :: ws
theorem splitB_ne (b : UInt8) (s : List UInt8) : splitB b s ≠ [] := by
 cases s with
 | nil => simp [splitB]
 | cons c r =>
  simp only [splitB]
  split
  ·simp
  ·split <;> simp
theorem splitB_no {b : UInt8} : ∀ {p : List UInt8}, b ∉ p -> splitB b p = [p]
 | [], _ => rfl
 | c :: r, h => by
  simp only [List.mem_cons, not_or] at h
  simp only [splitB]
  rw [if_neg (fun e => h.1 e.symm), splitB_no h.2]
theorem splitB_app {b : UInt8} : ∀ {p : List UInt8} (r : List UInt8), b ∉ p -> splitB b (p ++ b :: r) = p :: splitB b r
 | [], r, _ => by simp [splitB]
 | c :: p, r, h => by
  simp only [List.mem_cons, not_or] at h
  simp only [List.cons_append, splitB]
  rw [if_neg (fun e => h.1 e.symm), splitB_app r h.2]
theorem splitB_len (b : UInt8) : ∀ s : List UInt8, (splitB b s).length = s.count b + 1
 | [] => rfl
 | c :: r => by
  have ih := splitB_len b r
  simp only [splitB, List.count_cons]
  by_cases h : c = b
  ·rw [if_pos h, h]
   simp [ih]
  ·rw [if_neg h]
   have hb : (c == b) = false := by simpa using h
   rw [hb]
   cases hs : splitB b r with
   | nil => exact absurd hs (splitB_ne b r)
   | cons w ws =>
    rw [hs] at ih
    simpa using ih
theorem splitB_mem {b : UInt8} : ∀ {s w : List UInt8}, w ∈ splitB b s -> b ∉ w /\ w.length <= s.length
 | [], w, h => by
  simp only [splitB, List.mem_singleton] at h
  subst h
  simp
 | c :: r, w, h => by
  simp only [splitB] at h
  split at h
  ·rcases List.mem_cons.1 h with rfl | h
   ·simp
   ·obtain ⟨h1, h2⟩ := splitB_mem h
    exact ⟨h1, by simp only [List.length_cons]; omega⟩
  ·rename_i hc
   split at h
   ·rename_i hs
    exact absurd hs (splitB_ne b r)
   ·rename_i w0 ws hs
    rcases List.mem_cons.1 h with rfl | h
    ·obtain ⟨h1, h2⟩ := splitB_mem (b := b) (s := r) (w := w0) (by rw [hs]; exact List.mem_cons_self)
     refine ⟨?_, by simp only [List.length_cons]; omega⟩
     simp only [List.mem_cons, not_or]
     exact ⟨fun e => hc e.symm, h1⟩
    ·obtain ⟨h1, h2⟩ := splitB_mem (b := b) (s := r) (w := w) (by rw [hs]; exact List.mem_cons_of_mem _ h)
     exact ⟨h1, by simp only [List.length_cons]; omega⟩
def joinB (b : UInt8) : List (List UInt8) -> List UInt8
 | [] => []
 | [w] => w
 | w :: v :: ws => w ++ b :: joinB b (v :: ws)
theorem joinB_split (b : UInt8) : ∀ s : List UInt8, joinB b (splitB b s) = s
 | [] => rfl
 | c :: r => by
  have ih := joinB_split b r
  simp only [splitB]
  by_cases h : c = b
  ·rw [if_pos h]
   cases hs : splitB b r with
   | nil => exact absurd hs (splitB_ne b r)
   | cons w ws =>
    rw [hs] at ih
    simp only [joinB, List.nil_append, ih, h]
  ·rw [if_neg h]
   cases hs : splitB b r with
   | nil => exact absurd hs (splitB_ne b r)
   | cons w ws =>
    rw [hs] at ih
    cases ws with
    | nil => simp only [joinB] at ih ⊢; rw [ih]
    | cons v ws => simp only [joinB, List.cons_append] at ih ⊢; rw [ih]
def isDig (c : UInt8) : Bool := !(decide (c.toNat < 48) || decide (57 < c.toNat))
def valD (s : List UInt8) : Int := s.foldl (fun (n : Int) c => 10 * n + ((c.toNat : Int) - 48)) 0
def lead (s : List UInt8) : Bool := match s with
 | [] => true
 | c :: r => c == 48 && !r.isEmpty
def digM (s : List UInt8) (most : Int) : Int := if s.all isDig && decide ((s.length : Int) <= most) && !lead s then valD s else -1
theorem lead_of {s : List UInt8} (h : s ≠ []) : lead s = (atI s 0 == 48 && decide ((1 : Int) < (s.length : Int))) := by
 cases s with
 | nil => exact absurd rfl h
 | cons c r =>
  have e : atI (c :: r) 0 = c := rfl
  rw [e]
  unfold lead
  cases r with
  | nil => simp
  | cons d r => simp; omega
theorem isDig_rng {c : UInt8} (h : isDig c = true) : 48 <= c.toNat /\ c.toNat <= 57 := by
 simp only [isDig, Bool.not_eq_true', Bool.or_eq_false_iff, decide_eq_false_iff_not] at h
 omega
theorem valD_app (s : List UInt8) (c : UInt8) : valD (s ++ [c]) = 10 * valD s + ((c.toNat : Int) - 48) := by
 unfold valD
 rw [List.foldl_append]
 rfl
theorem rev_ind {P : List UInt8 -> Prop} (h0 : P []) (h1 : ∀ s c, P s -> P (s ++ [c])) : ∀ s, P s := by
 intro s
 have : ∀ n (s : List UInt8), s.length = n -> P s := by
  intro n
  induction n with
  | zero => intro s hs; rw [List.eq_nil_of_length_eq_zero hs]; exact h0
  | succ n ih =>
   intro s hs
   have hne : s ≠ [] := by intro e; rw [e] at hs; cases hs
   rw [<- List.dropLast_concat_getLast hne]
   exact h1 _ _ (ih _ (by simp [hs]))
 exact this _ s rfl
theorem valD_rng (s : List UInt8) : s.all isDig = true -> 0 <= valD s /\ valD s < 10 ^ s.length := by
 refine rev_ind (P := fun s => s.all isDig = true -> 0 <= valD s /\ valD s < 10 ^ s.length) ?_ ?_ s
 ·intro _; simp [valD]
 ·intro s c ih h
  simp only [List.all_append, List.all_cons, List.all_nil, Bool.and_true, Bool.and_eq_true] at h
  obtain ⟨h1, h2⟩ := ih h.1
  have h3 := isDig_rng h.2
  rw [valD_app, List.length_append, List.length_cons, List.length_nil, Int.pow_succ]
  omega
def numD (n : Nat) : List UInt8 := if n < 10 then [UInt8.ofNat (48 + n)] else numD (n / 10) ++ [UInt8.ofNat (48 + n % 10)]
termination_by n
decreasing_by omega
theorem numD_lt {n : Nat} (h : n < 10) : numD n = [UInt8.ofNat (48 + n)] := by rw [numD, if_pos h]
theorem numD_ge {n : Nat} (h : 10 <= n) : numD n = numD (n / 10) ++ [UInt8.ofNat (48 + n % 10)] := by rw [numD, if_neg (by omega)]
theorem ofNat_dig {c : UInt8} {d : Nat} (h : (c.toNat : Int) - 48 = d) (h2 : 48 <= c.toNat) : UInt8.ofNat (48 + d) = c := by
 have : 48 + d = c.toNat := by omega
 rw [this]
 exact UInt8.ofNat_toNat
theorem numD_val (s : List UInt8) : s.all isDig = true -> lead s = false -> numD (valD s).toNat = s /\ (s ≠ [48] -> 1 <= valD s) := by
 refine rev_ind (P := fun s => s.all isDig = true -> lead s = false -> numD (valD s).toNat = s /\ (s ≠ [48] -> 1 <= valD s)) ?_ ?_ s
 ·intro _ h; cases h
 ·intro s c ih h hl
  simp only [List.all_append, List.all_cons, List.all_nil, Bool.and_true, Bool.and_eq_true] at h
  have hc := isDig_rng h.2
  rw [valD_app]
  cases s with
  | nil =>
   have e : valD [] = 0 := rfl
   rw [e]
   refine ⟨?_, fun hne => ?_⟩
   ·have e2 : (10 * 0 + ((c.toNat : Int) - 48)).toNat = c.toNat - 48 := by omega
    rw [e2, numD_lt (by omega), List.nil_append]
    congr 1
    exact ofNat_dig (by omega) hc.1
   ·rcases Nat.lt_or_ge 48 c.toNat with h48 | h48
    ·omega
    ·exfalso
     apply hne
     have : c = 48 := by
      apply UInt8.toNat_inj.1
      show c.toNat = 48
      omega
     rw [this]
     rfl
  | cons d r =>
   have hl2 : (d == 48) = false := by
    cases hd : d == 48
    ·rfl
    ·simp only [lead, List.cons_append, hd, Bool.true_and] at hl
     cases r <;> simp at hl
   have hl3 : lead (d :: r) = false := by simp only [lead, hl2, Bool.false_and]
   obtain ⟨h1, h2⟩ := ih h.1 hl3
   have hne : d :: r ≠ [48] := by
    intro e
    simp only [List.cons.injEq] at e
    rw [e.1] at hl2
    simp at hl2
   have h3 := h2 hne
   refine ⟨?_, fun _ => by omega⟩
   have e1 : (10 * valD (d :: r) + ((c.toNat : Int) - 48)).toNat = 10 * (valD (d :: r)).toNat + (c.toNat - 48) := by omega
   rw [e1, numD_ge (by omega)]
   have e2 : (10 * (valD (d :: r)).toNat + (c.toNat - 48)) / 10 = (valD (d :: r)).toNat := by omega
   have e3 : (10 * (valD (d :: r)).toNat + (c.toNat - 48)) % 10 = c.toNat - 48 := by omega
   rw [e2, e3, h1]
   congr 2
   exact ofNat_dig (by omega) hc.1
theorem digM_ok {s : List UInt8} {most : Int} (h : 0 <= digM s most) : s.all isDig = true /\ (s.length : Int) <= most /\ lead s = false /\ digM s most = valD s := by
 unfold digM at h ⊢
 split
 ·rename_i hc
  simp only [Bool.and_eq_true, decide_eq_true_eq, Bool.not_eq_true'] at hc
  exact ⟨hc.1.1, hc.1.2, hc.2, rfl⟩
 ·rename_i hc
  rw [if_neg hc] at h
  omega
theorem digM_num {s : List UInt8} {most : Int} (h : 0 <= digM s most) : numD (digM s most).toNat = s := by
 obtain ⟨h1, h2, h3, h4⟩ := digM_ok h
 rw [h4]
 exact (numD_val s h1 h3).1
theorem digM_of {s : List UInt8} {most : Int} (h1 : s.all isDig = true) (h2 : (s.length : Int) <= most) (h3 : lead s = false) : digM s most = valD s := by
 unfold digM
 rw [h1, h3, decide_eq_true h2]
 rfl
theorem valD_pos {s : List UInt8} (h : s.all isDig = true) (hl : lead s = false) : (10 : Int) ^ (s.length - 1) <= valD s \/ s.length <= 1 := by
 cases s with
 | nil => exact .inr (by simp)
 | cons c r =>
  cases r with
  | nil => exact .inr (by simp)
  | cons d r =>
   left
   have hc : (c == 48) = false := by
    cases hd : c == 48
    ·rfl
    ·simp [lead, hd] at hl
   have hcd : 49 <= c.toNat := by
    have h5 := isDig_rng (by simp only [List.all_cons, Bool.and_eq_true] at h; exact h.1)
    rcases Nat.lt_or_ge 48 c.toNat with h6 | h6
    ·omega
    ·exfalso
     have : c = 48 := by apply UInt8.toNat_inj.1; show c.toNat = 48; omega
     rw [this] at hc
     simp at hc
   have key : ∀ (t : List UInt8), t.all isDig = true -> ∀ n : Int, 1 <= n -> (10 : Int) ^ t.length * n <= t.foldl (fun (n : Int) c => 10 * n + ((c.toNat : Int) - 48)) n := by
    intro t
    induction t with
    | nil => intro _ n hn; simp
    | cons x t ih =>
     intro ht n hn
     simp only [List.all_cons, Bool.and_eq_true] at ht
     have hx := isDig_rng ht.1
     have h7 := ih ht.2 (10 * n + ((x.toNat : Int) - 48)) (by omega)
     simp only [List.foldl_cons, List.length_cons, Int.pow_succ]
     refine Int.le_trans ?_ h7
     have h8 : (10 : Int) ^ t.length * 10 * n = 10 ^ t.length * (10 * n) := by rw [Int.mul_assoc]
     rw [h8]
     exact Int.mul_le_mul_of_nonneg_left (by omega) (Int.pow_nonneg (by decide))
   have h9 := key (d :: r) (by simp only [List.all_cons, Bool.and_eq_true] at h ⊢; exact h.2) ((c.toNat : Int) - 48) (by omega)
   have h10 : valD (c :: d :: r) = (d :: r).foldl (fun (n : Int) c => 10 * n + ((c.toNat : Int) - 48)) ((c.toNat : Int) - 48) := by
    unfold valD
    rw [List.foldl_cons]
    congr 1
    omega
   rw [h10]
   refine Int.le_trans ?_ h9
   have h11 : (c :: d :: r).length - 1 = (d :: r).length := by simp
   rw [h11]
   have h12 : (0 : Int) <= 10 ^ (d :: r).length := Int.pow_nonneg (by decide)
   have h13 := Int.mul_le_mul_of_nonneg_left (show (1 : Int) <= (c.toNat : Int) - 48 by omega) h12
   omega
def u8 (c : UInt8) : D := .int .u8 (c.toNat : Nat)
theorem t_slen {s : List UInt8} : Prim.slen.run [.str s] = some [i64 s.length] := rfl
theorem t_sidx {s : List UInt8} {k : Int} (h0 : 0 <= k) (h1 : k < s.length) : Prim.sidx.run [.str s, i64 k] = some [u8 (atI s k)] := by
 have hk : k.toNat < s.length := by omega
 show (if 0 <= k then match s[k.toNat]? with
  | some b => some [D.int .u8 b.toNat]
  | none => none else none) = _
 rw [if_pos h0, List.getElem?_eq_getElem hk]
 unfold atI u8
 rw [List.getD_eq_getElem?_getD, List.getElem?_eq_getElem hk]
 rfl
theorem t_ssub {s : List UInt8} {lo hi : Int} (h0 : 0 <= lo) (h1 : lo <= hi) (h2 : hi <= s.length) : Prim.ssub.run [.str s, i64 lo, i64 hi] = some [.str ((s.take hi.toNat).drop lo.toNat)] := if_pos ⟨h0, h1, h2⟩
theorem t_add {a b : List UInt8} (h : a.length + b.length <= 4611686018427387904) : (Prim.bin .add).run [.str a, .str b] = some [.str (a ++ b)] := by
 show ((if a.length + b.length <= 4611686018427387904 then some (D.str (a ++ b)) else none).map fun d => [d]) = _
 rw [if_pos h]
 rfl
theorem t_eq {a b : List UInt8} : (Prim.bin .eql).run [.str a, .str b] = some [.bool (a == b)] := rfl
theorem t_ne {a b : List UInt8} : (Prim.bin .neq).run [.str a, .str b] = some [.bool (!(a == b))] := rfl
theorem u8_lt {c : UInt8} {k : Nat} : (Prim.bin .lss).run [u8 c, .int .u8 (k : Int)] = some [.bool (decide (c.toNat < k))] := by
 show some [D.bool (decide ((c.toNat : Int) < (k : Int)))] = _
 simp
theorem u8_gt {c : UInt8} {k : Nat} : (Prim.bin .gtr).run [u8 c, .int .u8 (k : Int)] = some [.bool (decide (k < c.toNat))] := by
 show some [D.bool (decide ((c.toNat : Int) > (k : Int)))] = _
 simp
theorem u8_lt48 {c : UInt8} : (Prim.bin .lss).run [u8 c, .int .u8 48] = some [.bool (decide (c.toNat < 48))] := u8_lt (k := 48)
theorem u8_gt57 {c : UInt8} : (Prim.bin .gtr).run [u8 c, .int .u8 57] = some [.bool (decide (57 < c.toNat))] := u8_gt (k := 57)
theorem u8_eq {c d : UInt8} : (Prim.bin .eql).run [u8 c, u8 d] = some [.bool (c == d)] := by
 show some [D.bool ((c.toNat : Int) == (d.toNat : Int))] = _
 congr 3
 rw [Bool.eq_iff_iff]
 simp only [beq_iff_eq]
 constructor
 ·intro h; exact UInt8.toNat_inj.1 (by omega)
 ·intro h; rw [h]
theorem u8_eq48 {c : UInt8} : (Prim.bin .eql).run [u8 c, .int .u8 48] = some [.bool (c == 48)] := u8_eq (d := 48)
theorem u8_sub {c : UInt8} : (Prim.bin .sub).run [u8 c, .int .u8 48] = some [.int .u8 (IntKind.u8.wrap ((c.toNat : Int) - 48))] := rfl
theorem u8_dig {c : UInt8} (h : isDig c = true) : (Prim.conv .i64).run [.int .u8 (IntKind.u8.wrap ((c.toNat : Int) - 48))] = some [i64 ((c.toNat : Int) - 48)] := by
 have h1 := isDig_rng h
 have h2 : IntKind.u8.wrap ((c.toNat : Int) - 48) = (c.toNat : Int) - 48 := by simp [IntKind.wrap, IntKind.bits, IntKind.signed]; omega
 rw [h2]
 exact u8_conv (by omega) (by omega)
theorem toU8 (b : UInt8) : ((b.toNat : Nat) : Int).toNat.toUInt8 = b := by
 rw [Int.toNat_natCast]
 exact UInt8.ofNat_toNat
theorem cntE_u8 {s : List UInt8} {b : UInt8} : cntE [.str s, u8 b] = some [i64 (s.count b : Nat)] := by
 show some [D.int .i64 (cntOf s (b.toNat : Nat))] = _
 unfold cntOf
 rw [toU8]
theorem ixE_u8 {s : List UInt8} {b : UInt8} : ixE [.str s, u8 b] = some [i64 (Lib.indexByte s b)] := by
 show some [D.int .i64 (ixOf s (b.toNat : Nat))] = _
 unfold ixOf
 rw [toU8]
theorem ix_none {b : UInt8} : ∀ {s : List UInt8}, b ∉ s -> Lib.indexByte s b = -1
 | [], _ => rfl
 | c :: s, h => by
  simp only [List.mem_cons, not_or] at h
  have hc : (c == b) = false := by
   have := h.1
   cases hcb : c == b
   ·rfl
   ·exact absurd (by simpa using hcb) (fun e : c = b => this e.symm)
  unfold Lib.indexByte
  rw [hc, ix_none h.2]
  rfl
theorem ix_some {b : UInt8} : ∀ {s : List UInt8}, b ∈ s -> ∃ p r, s = p ++ b :: r /\ b ∉ p /\ Lib.indexByte s b = p.length
 | [], h => by cases h
 | c :: s, h => by
  unfold Lib.indexByte
  by_cases hc : c = b
  ·subst hc
   exact ⟨[], s, rfl, by simp, by simp⟩
  ·have hcb : (c == b) = false := by simpa using hc
   have hm : b ∈ s := by
    rcases List.mem_cons.1 h with e | e
    ·exact absurd e.symm hc
    ·exact e
   obtain ⟨p, r, h1, h2, h3⟩ := ix_some hm
   refine ⟨c :: p, r, by rw [h1]; rfl, ?_, ?_⟩
   ·simp only [List.mem_cons, not_or]
    exact ⟨fun e => hc e.symm, h2⟩
   ·rw [hcb, h3]
    have : ((p.length : Int) == -1) = false := by simp
    rw [this]
    simp
theorem drop_split {α : Type} [Inhabited α] {s : List α} {f i : Nat} (h1 : f <= i) (h2 : i < s.length) : s.drop f = (s.take i).drop f ++ atI s (i : Int) :: s.drop (i + 1) := by
 have h3 : s.drop i = atI s (i : Int) :: s.drop (i + 1) := by rw [List.drop_eq_getElem_cons h2, atI_get h2]
 rw [<- h3]
 conv => lhs; rw [<- List.take_append_drop i s]
 rw [List.drop_append_of_le_length (by rw [List.length_take]; omega)]
theorem take_drop_succ {α : Type} [Inhabited α] {s : List α} {f i : Nat} (h1 : f <= i) (h2 : i < s.length) : (s.take (i + 1)).drop f = (s.take i).drop f ++ [atI s (i : Int)] := by
 rw [<- take_at h2, List.drop_append_of_le_length (by rw [List.length_take]; omega)]
end Go.Proofs.YtdpfilpckndhcaaGreatDoor.Rf

namespace Go.Proofs.YtdpfilpckndhcaaGreatDoor.Rf
set_option linter.unusedVariables false
set_option linter.unusedSimpArgs false
theorem digM_up {s : List UInt8} {m : Int} (h : 0 <= digM s m) (hm : m <= 6) : digM s 6 = digM s m := by
 obtain ⟨h1, h2, h3, h4⟩ := digM_ok h
 rw [h4, digM_of h1 (by omega) h3]
theorem pow_le {a b : Nat} (h : a <= b) : (10 : Int) ^ a <= 10 ^ b := by exact_mod_cast Nat.pow_le_pow_right (by decide) h
theorem digM_few {s : List UInt8} {m : Nat} (h : 0 <= digM s 6) (h2 : digM s 6 < 10 ^ m) (hm : 1 <= m) : digM s m = digM s 6 := by
 obtain ⟨h3, h4, h5, h6⟩ := digM_ok h
 rw [h6] at h2
 rw [h6, digM_of h3 ?_ h5]
 rcases valD_pos h3 h5 with h7 | h7
 ·rcases Nat.lt_or_ge m s.length with h8 | h8
  ·have h9 := pow_le (show m <= s.length - 1 by omega)
   omega
  ·omega
 ·omega
def numsOf (most : Int) (ws : List (List UInt8)) : List Int := ws.map fun w => digM w most
def allNum (most : Int) (ws : List (List UInt8)) : Bool := ws.all fun w => decide (0 <= digM w most)
def numR (most : Int) (ws : List (List UInt8)) : List Int × Bool := if allNum most ws then (numsOf most ws, true) else ([], false)
theorem numsOf_len {most : Int} {ws : List (List UInt8)} : (numsOf most ws).length = ws.length := by simp [numsOf]
theorem allNum_mem {most : Int} {ws : List (List UInt8)} (h : allNum most ws = true) {w : List UInt8} (hw : w ∈ ws) : 0 <= digM w most := by
 simp only [allNum, List.all_eq_true, decide_eq_true_eq] at h
 exact h w hw
theorem numsOf_up {most : Int} {ws : List (List UInt8)} (h : allNum most ws = true) (hm : most <= 6) : numsOf 6 ws = numsOf most ws := by
 unfold numsOf
 exact List.map_congr_left fun w hw => digM_up (allNum_mem h hw) hm
theorem numsOf_few {m : Nat} {ws : List (List UInt8)} (h : ∀ x ∈ numsOf 6 ws, 0 <= x /\ x < 10 ^ m) (hm : 1 <= m) : numsOf m ws = numsOf 6 ws /\ allNum m ws = true := by
 have h2 : ∀ w ∈ ws, digM w m = digM w 6 /\ 0 <= digM w 6 := by
  intro w hw
  have h3 := h (digM w 6) (List.mem_map.2 ⟨w, hw, rfl⟩)
  exact ⟨digM_few h3.1 h3.2 hm, h3.1⟩
 refine ⟨List.map_congr_left fun w hw => (h2 w hw).1, ?_⟩
 simp only [allNum, List.all_eq_true, decide_eq_true_eq]
 intro w hw
 rw [(h2 w hw).1]
 exact (h2 w hw).2
theorem numsOf_at {most : Int} {ws : List (List UInt8)} {k : Nat} (h : k < ws.length) : atI (numsOf most ws) (k : Int) = digM (atI ws (k : Int)) most := by
 rw [atI_get h, atI_get (by rw [numsOf_len]; exact h)]
 simp [numsOf]
def numT (n : Int) : List UInt8 := numD n.toNat
theorem numT_nums {most : Int} {ws : List (List UInt8)} (h : allNum most ws = true) : (numsOf most ws).map numT = ws := by
 unfold numsOf
 rw [List.map_map]
 conv => rhs; rw [<- List.map_id ws]
 exact List.map_congr_left fun w hw => digM_num (allNum_mem h hw)
theorem numD_len : ∀ n : Nat, (numD n).length <= n + 1 := by
 intro n
 induction n using Nat.strongRecOn with
 | _ n ih =>
  rcases Nat.lt_or_ge n 10 with h | h
  ·rw [numD_lt h]; simp
  ·rw [numD_ge h, List.length_append]
   have := ih (n / 10) (by omega)
   simp only [List.length_cons, List.length_nil]
   omega
def kindB (w : List UInt8) : Int := if w == [45] then 0 else if w == [109, 111, 118, 101] then 1 else if w == [114, 101, 97, 100] then 2 else -1
def wantB (k : Int) : Int := if k == 0 then 1 else if k == 1 then 5 else 3
def cmdN (k : Int) (ns : List Int) : TCmd := if k == 1 then ⟨1, atI ns 0, atI ns 1, atI ns 2, atI ns 3⟩ else if k == 2 then ⟨2, atI ns 0, atI ns 1, 0, 0⟩ else ⟨0, 0, 0, 0, 0⟩
def cmdWs (ws : List (List UInt8)) : TCmd × Bool :=
 if decide (kindB (atI ws 0) < 0) || !((ws.length : Int) == wantB (kindB (atI ws 0))) || !allNum 4 (ws.drop 1) || !cmdOk (cmdN (kindB (atI ws 0)) (numsOf 4 (ws.drop 1))) then (⟨0, 0, 0, 0, 0⟩, false)
 else (cmdN (kindB (atI ws 0)) (numsOf 4 (ws.drop 1)), true)
def cmdB (s : List UInt8) : TCmd × Bool := cmdWs (splitB 32 s)
def cmdT (c : TCmd) : List UInt8 :=
 if c.kind == 1 then [109, 111, 118, 101, 32] ++ numT c.id ++ [32] ++ numT c.src ++ [32] ++ numT c.dst ++ [32] ++ numT c.amt
 else if c.kind == 2 then [114, 101, 97, 100, 32] ++ numT c.id ++ [32] ++ numT c.src else [45]
theorem kindB_one {w : List UInt8} (h : kindB w = 1) : w = [109, 111, 118, 101] := by
 unfold kindB at h
 split at h
 ·cases h
 ·split at h
  ·rename_i h2; simpa using h2
  ·split at h <;> cases h
theorem kindB_two {w : List UInt8} (h : kindB w = 2) : w = [114, 101, 97, 100] := by
 unfold kindB at h
 split at h
 ·cases h
 ·split at h
  ·cases h
  ·split at h
   ·rename_i h2; simpa using h2
   ·cases h
theorem kindB_nil {w : List UInt8} (h : kindB w = 0) : w = [45] := by
 unfold kindB at h
 split at h
 ·rename_i h2; simpa using h2
 ·split at h
  ·cases h
  ·split at h <;> cases h
theorem kindB_cases (w : List UInt8) : kindB w = 0 \/ kindB w = 1 \/ kindB w = 2 \/ kindB w = -1 := by
 unfold kindB
 split
 ·exact .inl rfl
 ·split
  ·exact .inr (.inl rfl)
  ·split
   ·exact .inr (.inr (.inl rfl))
   ·exact .inr (.inr (.inr rfl))
theorem list1 {α : Type} {l : List α} (h : l.length = 1) : ∃ a, l = [a] := by
 match l, h with
 | [a], _ => exact ⟨a, rfl⟩
theorem list2 {α : Type} {l : List α} (h : l.length = 2) : ∃ a b, l = [a, b] := by
 match l, h with
 | [a, b], _ => exact ⟨a, b, rfl⟩
theorem list3 {α : Type} {l : List α} (h : l.length = 3) : ∃ a b c, l = [a, b, c] := by
 match l, h with
 | [a, b, c], _ => exact ⟨a, b, c, rfl⟩
theorem list5 {α : Type} {l : List α} (h : l.length = 5) : ∃ a b c d e, l = [a, b, c, d, e] := by
 match l, h with
 | [a, b, c, d, e], _ => exact ⟨a, b, c, d, e, rfl⟩
theorem cmdB_ok {s : List UInt8} (h : (cmdB s).2 = true) : cmdOk (cmdB s).1 = true /\ cmdT (cmdB s).1 = s := by
 have hj := joinB_split 32 s
 unfold cmdB at h ⊢
 generalize splitB 32 s = ws at h hj ⊢
 unfold cmdWs at h ⊢
 split at h
 ·cases h
 rename_i hc
 rw [if_neg hc]
 simp only [Bool.or_eq_true, not_or, Bool.not_eq_true', Bool.not_eq_false', Bool.not_eq_true, decide_eq_false_iff_not, beq_iff_eq, Bool.not_eq_false] at hc
 obtain ⟨⟨⟨h1, h2⟩, h3⟩, h4⟩ := hc
 refine ⟨h4, ?_⟩
 simp only
 rcases kindB_cases (atI ws 0) with e | e | e | e
 ·have hw := kindB_nil e
  rw [e] at h2
  have hl : ws.length = 1 := by have : wantB 0 = 1 := rfl; omega
  obtain ⟨a, rfl⟩ := list1 hl
  rw [e]
  rw [<- hj]
  show cmdT ⟨0, 0, 0, 0, 0⟩ = a
  rw [show a = [45] from hw]
  rfl
 ·have hw := kindB_one e
  rw [e] at h2
  have hl : ws.length = 5 := by have : wantB 1 = 5 := rfl; omega
  obtain ⟨w, a, b, c, d, rfl⟩ := list5 hl
  rw [e]
  have hn := numT_nums h3
  rw [<- hj]
  show [109, 111, 118, 101, 32] ++ numT (digM a 4) ++ [32] ++ numT (digM b 4) ++ [32] ++ numT (digM c 4) ++ [32] ++ numT (digM d 4) = joinB 32 [w, a, b, c, d]
  have e5 : numT (digM a 4) = a /\ numT (digM b 4) = b /\ numT (digM c 4) = c /\ numT (digM d 4) = d := by simpa [numsOf] using hn
  rw [e5.1, e5.2.1, e5.2.2.1, e5.2.2.2, show w = [109, 111, 118, 101] from hw]
  simp [joinB]
 ·have hw := kindB_two e
  rw [e] at h2
  have hl : ws.length = 3 := by have : wantB 2 = 3 := rfl; omega
  obtain ⟨w, a, b, rfl⟩ := list3 hl
  rw [e]
  have hn := numT_nums h3
  rw [<- hj]
  show [114, 101, 97, 100, 32] ++ numT (digM a 4) ++ [32] ++ numT (digM b 4) = joinB 32 [w, a, b]
  have e5 : numT (digM a 4) = a /\ numT (digM b 4) = b := by simpa [numsOf] using hn
  rw [e5.1, e5.2, show w = [114, 101, 97, 100] from hw]
  simp [joinB]
 ·rw [e] at h1
  exact absurd (by decide) h1
theorem ixF_kind {w : List UInt8} : ixF (fun x => w == x) [[45], [109, 111, 118, 101], [114, 101, 97, 100]] = kindB w := by
 unfold kindB ixF
 cases h1 : w == [45] <;> cases h2 : w == [109, 111, 118, 101] <;> cases h3 : w == [114, 101, 97, 100] <;> simp [List.findIdx?_cons, h1, h2, h3]
theorem cmdWs_no {ws : List (List UInt8)} (h : kindB (atI ws 0) < 0 \/ (ws.length : Int) ≠ wantB (kindB (atI ws 0)) \/ allNum 4 (ws.drop 1) = false \/ cmdOk (cmdN (kindB (atI ws 0)) (numsOf 4 (ws.drop 1))) = false) : cmdWs ws = (⟨0, 0, 0, 0, 0⟩, false) := by
 unfold cmdWs
 rw [if_pos]
 rcases h with h | h | h | h
 ·simp [-List.drop_one, h]
 ·simp [-List.drop_one, h]
 ·simp [-List.drop_one, h]
 ·simp [-List.drop_one, h]
theorem cmdWs_yes {ws : List (List UInt8)} {k : Int} (hk : kindB (atI ws 0) = k) (h0 : 0 <= k) (h1 : (ws.length : Int) = wantB k) (h2 : allNum 4 (ws.drop 1) = true) (h3 : cmdOk (cmdN k (numsOf 4 (ws.drop 1))) = true) : cmdWs ws = (cmdN k (numsOf 4 (ws.drop 1)), true) := by
 unfold cmdWs
 rw [hk, if_neg]
 simp [-List.drop_one, h1, h2, h3, h0]
theorem numR_no {m : Int} {ws : List (List UInt8)} (h : allNum m ws = false) : numR m ws = ([], false) := by unfold numR; rw [h]; rfl
theorem numR_yes {m : Int} {ws : List (List UInt8)} (h : allNum m ws = true) : numR m ws = (numsOf m ws, true) := by unfold numR; rw [h]; rfl
theorem allNum_succ {m : Int} {ws : List (List UInt8)} {i : Nat} (h : i < ws.length) : allNum m (ws.take (i + 1)) = (allNum m (ws.take i) && decide (0 <= digM (atI ws (i : Int)) m)) := by
 rw [<- take_at h]
 simp [allNum]
theorem numsOf_succ {m : Int} {ws : List (List UInt8)} {i : Nat} (h : i < ws.length) : numsOf m (ws.take (i + 1)) = numsOf m (ws.take i) ++ [digM (atI ws (i : Int)) m] := by
 rw [<- take_at h]
 simp [numsOf]
theorem allNum_bad {m : Int} {ws : List (List UInt8)} {i : Nat} (h : i < ws.length) (h2 : digM (atI ws (i : Int)) m < 0) : allNum m ws = false := by
 cases ha : allNum m ws
 ·rfl
 ·have := allNum_mem ha (at_mem h)
  omega
def fillN (ws : List (List UInt8)) (i : Nat) : List Int := numsOf 6 (ws.take i) ++ List.replicate (4 - i) 0
theorem fillN_len {ws : List (List UInt8)} {i : Nat} (h : i <= ws.length) (h4 : i <= 4) : (fillN ws i).length = 4 := by
 simp only [fillN, List.length_append, numsOf_len, List.length_take, List.length_replicate]
 omega
theorem fillN_set {ws : List (List UInt8)} {i : Nat} (h : i < ws.length) (h4 : ws.length <= 4) : setI (fillN ws i) (i : Int) (digM (atI ws (i : Int)) 6) = fillN ws (i + 1) := by
 have hl : (numsOf 6 (ws.take i)).length = i := by rw [numsOf_len, List.length_take]; omega
 have e : List.replicate (4 - i) (0 : Int) = 0 :: List.replicate (4 - (i + 1)) 0 := by
  rw [show 4 - i = (4 - (i + 1)) + 1 by omega]; rfl
 unfold fillN setI
 rw [numsOf_succ h, e, Int.toNat_natCast, List.set_append_right _ _ (by omega), hl, Nat.sub_self, List.set_cons_zero, List.append_assoc]
 rfl
theorem digM_long {s : List UInt8} (h : 4 < (s.length : Int)) : digM s 4 < 0 := by
 rcases (show digM s 4 < 0 \/ 0 <= digM s 4 by omega) with h2 | h2
 ·exact h2
 ·have := (digM_ok h2).2.1
  omega
theorem digM_short {s : List UInt8} (h : (s.length : Int) <= 4) : digM s 4 = digM s 6 := by
 unfold digM
 rw [decide_eq_true h, decide_eq_true (show (s.length : Int) <= 6 by omega)]
theorem drop1_len {α : Type} {ws : List α} : (ws.drop 1).length = ws.length - 1 := by simp
theorem sub_tail {ws : List (List UInt8)} (h : 1 <= ws.length) : (Prim.sub 1 true).run [rL ws, i64 1, i64 ws.length] = some [rL (ws.drop 1)] := by
 have := S_sub.2.2.1 (xs := ws) (lo := 1) (hi := (ws.length : Int)) (by omega) (by omega) (by omega)
 rw [this, Int.toNat_natCast, List.take_of_length_le (Nat.le_refl _)]
 rfl
theorem kindB_neg {w : List UInt8} (h : kindB w = -1) : (w == [45]) = false /\ (w == [109, 111, 118, 101]) = false /\ (w == [114, 101, 97, 100]) = false := by
 unfold kindB at h
 split at h
 ·cases h
 ·split at h
  ·cases h
  ·split at h
   ·cases h
   ·rename_i h1 h2 h3
    exact ⟨by simpa using h1, by simpa using h2, by simpa using h3⟩
theorem cmdCode_one {i f t a : Int} : decide (0 < cmdCode ⟨1, i, f, t, a⟩) = !cmdOk ⟨1, i, f, t, a⟩ := by
 unfold cmdCode cmdOk
 cases inR f 0 3 <;> cases inR i 1 999 <;> cases inR t 0 3 <;> cases f == t <;> cases inR a 1 1000 <;> rfl
theorem cmdCode_two {i f : Int} : decide (0 < cmdCode ⟨2, i, f, 0, 0⟩) = !cmdOk ⟨2, i, f, 0, 0⟩ := by
 unfold cmdCode cmdOk
 cases inR f 0 3 <;> cases inR i 1 999 <;> rfl
theorem numT_len {n : Int} (h : n <= 9999) : (numT n).length <= 10000 := by
 have := numD_len n.toNat
 unfold numT
 omega
theorem cmdOk_rng {c : TCmd} (h : cmdOk c = true) : (0 <= c.id /\ c.id <= 9999) /\ (0 <= c.src /\ c.src <= 9999) /\ (0 <= c.dst /\ c.dst <= 9999) /\ 0 <= c.amt /\ c.amt <= 9999 := by
 unfold cmdOk at h
 split at h
 ·rw [of_decide_eq_true h]; decide
 ·split at h
  ·simp only [inR, Bool.and_eq_true, decide_eq_true_eq] at h; omega
  ·simp only [inR, Bool.and_eq_true, decide_eq_true_eq, beq_iff_eq] at h; omega
theorem cmdOk_kind {c : TCmd} (h : cmdOk c = true) : c.kind = 0 \/ c.kind = 1 \/ c.kind = 2 := by
 unfold cmdOk at h
 split at h
 ·rename_i h1; exact .inl (by simpa using h1)
 ·split at h
  ·rename_i h1; exact .inr (.inl (by simpa using h1))
  ·simp only [Bool.and_eq_true, beq_iff_eq] at h; exact .inr (.inr h.1.1.1.1)
theorem joinB_snoc {b : UInt8} : ∀ {ws : List (List UInt8)} {w : List UInt8}, ws ≠ [] -> joinB b (ws ++ [w]) = joinB b ws ++ [b] ++ w
 | [], _, h => absurd rfl h
 | [v], w, _ => by simp [joinB]
 | v :: u :: ws, w, _ => by
  have ih := joinB_snoc (b := b) (ws := u :: ws) (w := w) (by simp)
  simp only [List.cons_append] at ih ⊢
  simp only [joinB, ih]
  simp
theorem joinB_len {b : UInt8} : ∀ {ws : List (List UInt8)}, (∀ w ∈ ws, w.length <= 10000) -> (joinB b ws).length <= 10001 * ws.length
 | [], _ => by simp [joinB]
 | [v], h => by
  have := h v (by simp)
  simp only [joinB, List.length_cons, List.length_nil]
  omega
 | v :: u :: ws, h => by
  have ih := joinB_len (b := b) (ws := u :: ws) (fun w hw => h w (List.mem_cons_of_mem _ hw))
  have := h v (by simp)
  simp only [joinB, List.length_append, List.length_cons] at ih ⊢
  omega
theorem ix_app {b : UInt8} : ∀ {p : List UInt8} (t : List UInt8), b ∉ p -> Lib.indexByte (p ++ b :: t) b = p.length
 | [], t, _ => by
  show Lib.indexByte (b :: t) b = 0
  unfold Lib.indexByte
  simp
 | c :: p, t, h => by
  simp only [List.mem_cons, not_or] at h
  have hc : (c == b) = false := by
   cases hcb : c == b
   ·rfl
   ·exact absurd (by simpa using hcb) (fun e : c = b => h.1 e.symm)
  show Lib.indexByte (c :: (p ++ b :: t)) b = _
  unfold Lib.indexByte
  rw [hc, ix_app t h.2]
  have : ((p.length : Int) == -1) = false := by simp
  rw [this]
  simp
theorem mem_splitB {b c : UInt8} (hcb : c ≠ b) : ∀ {s : List UInt8}, c ∈ s -> ∃ w ∈ splitB b s, c ∈ w
 | [], h => by cases h
 | d :: r, h => by
  simp only [splitB]
  by_cases hd : d = b
  ·rw [if_pos hd]
   rcases List.mem_cons.1 h with e | e
   ·exact absurd (e.trans hd) hcb
   ·obtain ⟨w, h1, h2⟩ := mem_splitB hcb e
    exact ⟨w, List.mem_cons_of_mem _ h1, h2⟩
  ·rw [if_neg hd]
   cases hs : splitB b r with
   | nil => exact absurd hs (splitB_ne b r)
   | cons v vs =>
    rcases List.mem_cons.1 h with e | e
    ·exact ⟨d :: v, List.mem_cons_self, by rw [e]; exact List.mem_cons_self⟩
    ·obtain ⟨w, h1, h2⟩ := mem_splitB hcb e
     rw [hs] at h1
     rcases List.mem_cons.1 h1 with rfl | h1
     ·exact ⟨d :: w, List.mem_cons_self, List.mem_cons_of_mem _ h2⟩
     ·exact ⟨w, List.mem_cons_of_mem _ h1, h2⟩
theorem allNum_not {b c : UInt8} {m : Int} {s : List UInt8} (hcb : c ≠ b) (hc : isDig c = false) (h : c ∈ s) : allNum m (splitB b s) = false := by
 cases ha : allNum m (splitB b s)
 ·rfl
 ·obtain ⟨w, h1, h2⟩ := mem_splitB hcb h
  have h3 := (digM_ok (allNum_mem ha h1)).1
  rw [List.all_eq_true] at h3
  rw [h3 c h2] at hc
  cases hc
def attrWs (n : Int) (s : List UInt8) (ps : List (List UInt8)) : TAttr × Bool :=
 if decide (40 < (s.length : Int)) || !((ps.length : Int) == 2) || !(isGrp n && attrOk n ⟨digM (atI ps 0) 6, numsOf 6 (splitB 44 (atI ps 1))⟩) then (⟨0, []⟩, false)
 else (⟨digM (atI ps 0) 6, numsOf 6 (splitB 44 (atI ps 1))⟩, true)
def attrB (n : Int) (s : List UInt8) : TAttr × Bool := attrWs n s (splitB 58 s)
def attrT (a : TAttr) : List UInt8 := numT a.seq ++ 58 :: joinB 44 (a.deps.map numT)
theorem attrOk_rng {n : Int} {a : TAttr} (h : attrOk n a = true) : 0 <= a.seq /\ a.seq <= 999 /\ (a.deps.length : Int) = n /\ ∀ x ∈ a.deps, 0 <= x /\ x <= 6 := by
 simp only [attrOk, inR, Bool.and_eq_true, decide_eq_true_eq, beq_iff_eq, List.all_eq_true] at h
 exact ⟨h.1.1.1, h.1.1.2, h.1.2, fun x hx => h.2 x hx⟩
theorem attrB_ok {n : Int} {s : List UInt8} (h : (attrB n s).2 = true) : isGrp n = true /\ attrOk n (attrB n s).1 = true /\ attrT (attrB n s).1 = s := by
 have hj := joinB_split 58 s
 unfold attrB at h ⊢
 generalize splitB 58 s = ps at h hj ⊢
 unfold attrWs at h ⊢
 split at h
 ·cases h
 rename_i hc
 rw [if_neg hc]
 simp only [Bool.or_eq_true, not_or, Bool.not_eq_true', Bool.not_eq_false', Bool.not_eq_true, decide_eq_false_iff_not, beq_iff_eq, Bool.not_eq_false, Bool.and_eq_true] at hc
 obtain ⟨⟨h1, h2⟩, h3, h4⟩ := hc
 refine ⟨h3, h4, ?_⟩
 obtain ⟨p, t, rfl⟩ := list2 (l := ps) (by omega)
 obtain ⟨r1, r2, r3, r4⟩ := attrOk_rng h4
 have a6 : allNum 6 (splitB 44 t) = true := by
  simp only [allNum, List.all_eq_true, decide_eq_true_eq]
  intro w hw
  exact (r4 (digM w 6) (List.mem_map.2 ⟨w, hw, rfl⟩)).1
 rw [<- hj]
 show numT (digM p 6) ++ 58 :: joinB 44 ((numsOf 6 (splitB 44 t)).map numT) = joinB 58 [p, t]
 have e1 : numT (digM p 6) = p := digM_num r1
 rw [numT_nums a6, e1, joinB_split]
 rfl
theorem attrB_cut {n : Int} {s p t : List UInt8} (hs : s = p ++ 58 :: t) (hp : (58 : UInt8) ∉ p) :
  attrB n s = if !allNum 1 (splitB 44 t) || decide (40 < (s.length : Int)) || !(isGrp n && attrOk n ⟨digM p 3, numsOf 1 (splitB 44 t)⟩) then (⟨0, []⟩, false) else (⟨digM p 3, numsOf 1 (splitB 44 t)⟩, true) := by
 have hb : attrB n s = attrWs n s (p :: splitB 58 t) := by
  unfold attrB
  congr 1
  rw [hs, splitB_app _ hp]
 rw [hb]
 unfold attrWs
 by_cases ht : (58 : UInt8) ∈ t
 ·have h1 := allNum_not (b := 44) (m := 1) (by decide) (by decide) ht
  have h2 : ((((p :: splitB 58 t).length : Nat) : Int) == 2) = false := by
   have := splitB_len 58 t
   have h3 : 0 < t.count 58 := List.count_pos_iff.2 ht
   simp only [List.length_cons, this, beq_eq_false_iff_ne]
   omega
  rw [h1, h2]
  simp
 ·rw [splitB_no ht]
  have e0 : atI [p, t] 0 = p := rfl
  have e1 : atI [p, t] 1 = t := rfl
  have e2 : ((([p, t] : List (List UInt8)).length : Int) == 2) = true := rfl
  rw [e0, e1, e2]
  by_cases hg : isGrp n = true
  rotate_left
  ·have hg2 : isGrp n = false := by simpa using hg
   rw [hg2]; simp
  rw [hg]
  by_cases hA : attrOk n ⟨digM p 6, numsOf 6 (splitB 44 t)⟩ = true
  ·obtain ⟨r1, r2, r3, r4⟩ := attrOk_rng hA
   have d3 : digM p 3 = digM p 6 := digM_few (m := 3) r1 (by simp only at r2; omega) (by decide)
   obtain ⟨d1, d2⟩ := numsOf_few (m := 1) (ws := splitB 44 t) (fun x hx => ⟨(r4 x hx).1, by have := (r4 x hx).2; omega⟩) (by decide)
   have d1' : numsOf 1 (splitB 44 t) = numsOf 6 (splitB 44 t) := d1
   have d2' : allNum 1 (splitB 44 t) = true := d2
   rw [d3, d1', d2', hA]
   simp
  ·have hA2 : attrOk n ⟨digM p 6, numsOf 6 (splitB 44 t)⟩ = false := by simpa using hA
   rw [hA2]
   have hB : (!allNum 1 (splitB 44 t) || decide (40 < (s.length : Int)) || !(true && attrOk n ⟨digM p 3, numsOf 1 (splitB 44 t)⟩)) = true := by
    cases ha : allNum 1 (splitB 44 t)
    ·rfl
    ·cases hb : attrOk n ⟨digM p 3, numsOf 1 (splitB 44 t)⟩
     ·simp
     ·exfalso
      obtain ⟨r1, r2, r3, r4⟩ := attrOk_rng hb
      have d3 := digM_up (m := 3) r1 (by decide)
      have d1 := numsOf_up ha (by decide)
      rw [d3, d1, hb] at hA2
      cases hA2
   rw [hB]
   simp
theorem attrB_none {n : Int} {s : List UInt8} (h : (58 : UInt8) ∉ s) : attrB n s = (⟨0, []⟩, false) := by
 unfold attrB attrWs
 rw [splitB_no h]
 have e2 : ((([s] : List (List UInt8)).length : Int) == 2) = false := rfl
 rw [e2]
 simp
theorem rowOk_rng {n : Int} {r : TRow} (h : rowOk n r = true) : (0 <= r.ballot /\ r.ballot <= 9999) /\ (0 <= r.vote /\ r.vote <= 9999) /\ 0 <= r.state /\ r.state <= 3 := by
 simp only [rowOk, inR, Bool.and_eq_true, decide_eq_true_eq] at h
 omega
theorem flat_len {xs : List Int} (h : ∀ x ∈ xs, 0 <= x /\ x <= 9999) : (xs.flatMap fun x => 32 :: numT x).length <= 10001 * xs.length := by
 induction xs with
 | nil => simp
 | cons x xs ih =>
  have h1 := ih (fun y hy => h y (List.mem_cons_of_mem _ hy))
  have h2 := numT_len (h x List.mem_cons_self).2
  simp only [List.flatMap_cons, List.length_append, List.length_cons]
  omega
theorem attrB_len {n : Int} {s : List UInt8} : (attrB n s).1.deps.length <= 5 := by
 cases h : (attrB n s).2
 ·have : (attrB n s).1 = ⟨0, []⟩ := by
   unfold attrB attrWs at h ⊢
   split
   ·rfl
   ·rename_i hc
    rw [if_neg hc] at h
    cases h
  rw [this]; simp
 ·obtain ⟨h1, h2, _⟩ := attrB_ok h
  have h3 := (attrOk_rng h2).2.2.1
  have h4 := isGrp_rng h1
  omega
end Go.Proofs.YtdpfilpckndhcaaGreatDoor.Rf

namespace Go.Proofs.YtdpfilpckndhcaaGreatDoor.Rf
set_option linter.unusedVariables false
set_option linter.unusedSimpArgs false
def wordsM : List (List UInt8) := [[], [112, 114, 101], [112, 114, 101, 111, 107], [97, 99, 99], [97, 99, 99, 111, 107], [99, 111, 109], [112, 114, 101, 112], [112, 114, 101, 112, 111, 107]]
def kindM (w : List UInt8) : Int := ixF (fun x => w == x) wordsM
def lastM (w : List UInt8) : Nat -> Int
 | 0 => 0
 | i + 1 => if decide (0 < (i : Int)) && (atI wordsM (i : Int) == w) then (i : Int) else lastM w i
theorem lastM_eq (w : List UInt8) : lastM w 8 = if 1 <= kindM w then kindM w else 0 := by
 by_cases h0 : w = []
 ·subst h0; decide
 by_cases h1 : w = [112, 114, 101]
 ·subst h1; decide
 by_cases h2 : w = [112, 114, 101, 111, 107]
 ·subst h2; decide
 by_cases h3 : w = [97, 99, 99]
 ·subst h3; decide
 by_cases h4 : w = [97, 99, 99, 111, 107]
 ·subst h4; decide
 by_cases h5 : w = [99, 111, 109]
 ·subst h5; decide
 by_cases h6 : w = [112, 114, 101, 112]
 ·subst h6; decide
 by_cases h7 : w = [112, 114, 101, 112, 111, 107]
 ·subst h7; decide
 have hk : kindM w = -1 := by
  unfold kindM ixF wordsM
  simp [List.findIdx?_cons, h0, h1, h2, h3, h4, h5, h6, h7]
 rw [hk]
 have g1 : ¬[112, 114, 101] = w := fun e => h1 e.symm
 have g2 : ¬[112, 114, 101, 111, 107] = w := fun e => h2 e.symm
 have g3 : ¬[97, 99, 99] = w := fun e => h3 e.symm
 have g4 : ¬[97, 99, 99, 111, 107] = w := fun e => h4 e.symm
 have g5 : ¬[99, 111, 109] = w := fun e => h5 e.symm
 have g6 : ¬[112, 114, 101, 112] = w := fun e => h6 e.symm
 have g7 : ¬[112, 114, 101, 112, 111, 107] = w := fun e => h7 e.symm
 simp [lastM, atI, wordsM, g1, g2, g3, g4, g5, g6, g7]
theorem kindM_rng (w : List UInt8) : kindM w <= 7 := by
 unfold kindM ixF
 split
 ·rename_i i h
  have := (List.findIdx?_eq_some_iff_getElem.1 h).1
  have hl : wordsM.length = 8 := rfl
  omega
 ·omega
def msgD : TMsg := ⟨0, 0, 0, 0, 0, 0, 0, 0, ⟨0, 0, 0, 0, 0⟩, ⟨0, []⟩⟩
def msgN (k : Int) (ns : List Int) (c : TCmd) (a : TAttr) : TMsg := ⟨k, atI ns 0, atI ns 1, atI ns 2, atI ns 3, atI ns 4, atI ns 5, atI ns 6, c, a⟩
def readMs (n : Int) (ps : List (List UInt8)) : TMsg × Int × Bool :=
 if !isGrp n || !((ps.length : Int) == 3) then (msgD, 1, false)
 else if decide (kindM (atI (splitB 32 (atI ps 0)) 0) < 1) || !allNum 4 ((splitB 32 (atI ps 0)).drop 1) || !((((splitB 32 (atI ps 0)).length : Nat) : Int) == 8) then (msgD, 2, false)
 else if !(cmdB (atI ps 1)).2 then (msgD, 3, false)
 else if !(attrB n (atI ps 2)).2 then (msgD, 4, false)
 else if msgOk n (msgN (kindM (atI (splitB 32 (atI ps 0)) 0)) (numsOf 4 ((splitB 32 (atI ps 0)).drop 1)) (cmdB (atI ps 1)).1 (attrB n (atI ps 2)).1) then (msgN (kindM (atI (splitB 32 (atI ps 0)) 0)) (numsOf 4 ((splitB 32 (atI ps 0)).drop 1)) (cmdB (atI ps 1)).1 (attrB n (atI ps 2)).1, 0, true)
 else (msgD, 5, false)
def readM (n : Int) (s : List UInt8) : TMsg × Int × Bool := readMs n (splitB 124 s)
theorem readM_len {n : Int} {s : List UInt8} : (readM n s).1.attr.deps.length <= 5 := by
 unfold readM readMs
 split
 ·simp [msgD]
 split
 ·simp [msgD]
 split
 ·simp [msgD]
 split
 ·simp [msgD]
 split
 ·exact attrB_len
 ·simp [msgD]
end Go.Proofs.YtdpfilpckndhcaaGreatDoor.Rf

namespace Go.Proofs.YtdpfilpckndhcaaGreatDoor.Rf
set_option linter.unusedVariables false
set_option linter.unusedSimpArgs false
end Go.Proofs.YtdpfilpckndhcaaGreatDoor.Rf

namespace Go.Proofs.YtdpfilpckndhcaaGreatDoor.Rf
set_option linter.unusedVariables false
set_option linter.unusedSimpArgs false
theorem decD_num : ∀ n : Nat, Lib.decDigits n = numD n := by
 intro n
 induction n using Nat.strongRecOn with
 | _ n ih =>
  rw [Lib.decDigits]
  by_cases h : n < 10
  ·rw [numD_lt h]
   simp [h]
  ·rw [numD_ge (by omega)]
   simp [h, ih (n / 10) (by omega)]
theorem itoa_num {n : Int} (h0 : 0 <= n) : Lib.itoa n = numT n := by
 unfold Lib.itoa numT
 rw [if_neg (by omega), decD_num]
theorem fmtE_num {n : Int} (h0 : 0 <= n) (h1 : n <= 9999) : fmtE [i64 n, i64 10] = some [.str (numT n)] := by
 show (if (10 : Int) = 10 /\ -9223372036854775808 <= n /\ n <= 9223372036854775807 then some [D.str (Lib.itoa n)] else none) = _
 rw [if_pos ⟨rfl, by omega, by omega⟩, itoa_num h0]
theorem join_B {b : UInt8} : ∀ xs : List (List UInt8), Lib.join xs [b] = joinB b xs
 | [] => rfl
 | [x] => by simp [Lib.join, List.intercalate, joinB]
 | x :: y :: r => by
  have ih := join_B (b := b) (y :: r)
  simp only [Lib.join, List.intercalate, joinB] at ih ⊢
  simp [List.intersperse, <- ih]
theorem strsOf_rL : ∀ xs : List (List UInt8), strsOf (xs.map fun s => [D.str s]) = some xs
 | [] => rfl
 | x :: r => by
  simp only [List.map_cons, strsOf, strsOf_rL r]
  rfl
theorem joinE_B {xs : List (List UInt8)} {b : UInt8} (hne : xs ≠ []) (hl : xs.length <= 100000) (hw : ∀ w ∈ xs, w.length <= 10000) : joinE [rL xs, .str [b]] = some [.str (joinB b xs)] := by
 have e : (rL xs : D) = .rows 1 (xs.map fun s => [D.str s]) := rfl
 have h1 := joinB_len (b := b) (ws := xs) hw
 rw [e]
 show (strsOf (xs.map fun s => [D.str s])).bind _ = _
 rw [strsOf_rL, Option.bind_some, if_pos, join_B]
 rw [join_B]
 exact ⟨hne, by omega, by omega⟩
theorem cmdT_len {c : TCmd} (hc : cmdOk c = true) : (cmdT c).length <= 100000 := by
 obtain ⟨⟨i0, i1⟩, ⟨f0, f1⟩, ⟨t0, t1⟩, a0, a1⟩ := cmdOk_rng hc
 have li := numT_len i1
 have lf := numT_len f1
 have lt := numT_len t1
 have la := numT_len a1
 unfold cmdT
 split
 ·simp only [List.length_append, List.length_cons, List.length_nil]; omega
 ·split
  ·simp only [List.length_append, List.length_cons, List.length_nil]; omega
  ·simp
def msgNs (m : TMsg) : List Int := [m.src, m.dst, m.rep, m.no, m.ballot, m.vote, m.state]
def msgT (m : TMsg) : List UInt8 := atI wordsM m.kind ++ (msgNs m).flatMap (fun x => 32 :: numT x) ++ [124] ++ cmdT m.cmd ++ [124] ++ attrT m.attr
def msgR (n : Int) (m : TMsg) : List UInt8 × Bool := if msgOk n m then (msgT m, true) else ([], false)
theorem msgOk_rng {n : Int} {m : TMsg} (h : msgOk n m = true) : isGrp n = true /\ (1 <= m.kind /\ m.kind <= 7) /\ (∀ x ∈ msgNs m, 0 <= x /\ x <= 9999) /\ cmdOk m.cmd = true /\ attrOk n m.attr = true := by
 simp only [msgOk, Bool.and_eq_true] at h
 obtain ⟨⟨⟨⟨⟨⟨⟨hg, hk⟩, hi⟩, hs⟩, hd⟩, hne⟩, hb⟩, hr⟩ := h
 have hn := isGrp_rng hg
 have hi2 := inst_rng hi
 simp only [inR, Bool.and_eq_true, decide_eq_true_eq] at hk hs hd hb
 have key : (0 <= m.vote /\ m.vote <= 9999) /\ (0 <= m.state /\ m.state <= 9999) /\ cmdOk m.cmd = true /\ attrOk n m.attr = true := by
  split at hr
  ·simp only [Bool.and_eq_true] at hr
   have h2 := rowOk_rng hr.2
   have h3 := rowOk_cmd hr.2
   have h4 := rowOk_attr hr.2 hg
   simp only at h2 h3 h4
   exact ⟨by omega, by omega, h3, h4⟩
  ·simp only [Bool.and_eq_true, beq_iff_eq] at hr
   obtain ⟨⟨⟨⟨⟨h1, h2⟩, h3⟩, h4⟩, h5⟩, h6⟩ := hr
   exact ⟨by omega, by omega, h4, h5⟩
 refine ⟨hg, hk, ?_, key.2.2.1, key.2.2.2⟩
 intro x hx
 simp only [msgNs, List.mem_cons, List.not_mem_nil, or_false] at hx
 rcases hx with rfl | rfl | rfl | rfl | rfl | rfl | rfl <;> omega
theorem word_len {k : Int} (h : InB wordsM k) : (atI wordsM k).length <= 6 := by
 have h1 : ∀ w ∈ wordsM, w.length <= 6 := by decide
 exact h1 _ (at_memI h)
theorem join_flat {xs : List Int} (h : xs ≠ []) : [32] ++ joinB 32 (xs.map numT) = xs.flatMap (fun x => 32 :: numT x) := by
 induction xs with
 | nil => exact absurd rfl h
 | cons x xs ih =>
  cases xs with
  | nil => simp [joinB]
  | cons y ys =>
   have ih := ih (by simp)
   simp only [List.map_cons, joinB, List.flatMap_cons] at ih ⊢
   rw [<- ih]
   simp
end Go.Proofs.YtdpfilpckndhcaaGreatDoor.Rf

namespace Go.Proofs.YtdpfilpckndhcaaGreatDoor.Rf
set_option linter.unusedVariables false
set_option linter.unusedSimpArgs false
theorem numD_few : ∀ (k n : Nat), n < 10 ^ (k + 1) -> (numD n).length <= k + 1
 | 0, n, h => by
  rw [numD_lt (by simpa using h)]
  simp
 | k + 1, n, h => by
  rcases Nat.lt_or_ge n 10 with h1 | h1
  ·rw [numD_lt h1]; simp
  ·rw [numD_ge h1, List.length_append]
   have := numD_few k (n / 10) (by rw [Nat.pow_succ] at h; omega)
   simp only [List.length_cons, List.length_nil]
   omega
theorem numT_four {n : Int} (h : n <= 9999) : (numT n).length <= 4 := numD_few 3 n.toNat (by simp; omega)
theorem joinB_four {b : UInt8} : ∀ {ws : List (List UInt8)}, (∀ w ∈ ws, w.length <= 4) -> (joinB b ws).length <= 5 * ws.length
 | [], _ => by simp [joinB]
 | [v], h => by
  have := h v (by simp)
  simp only [joinB, List.length_cons, List.length_nil]
  omega
 | v :: u :: ws, h => by
  have ih := joinB_four (b := b) (ws := u :: ws) (fun w hw => h w (List.mem_cons_of_mem _ hw))
  have := h v (by simp)
  simp only [joinB, List.length_append, List.length_cons] at ih ⊢
  omega
theorem cmdT_few {c : TCmd} (hc : cmdOk c = true) : (cmdT c).length <= 24 := by
 obtain ⟨⟨i0, i1⟩, ⟨f0, f1⟩, ⟨t0, t1⟩, a0, a1⟩ := cmdOk_rng hc
 have li := numT_four i1
 have lf := numT_four f1
 have lt := numT_four t1
 have la := numT_four a1
 unfold cmdT
 split
 ·simp only [List.length_append, List.length_cons, List.length_nil]; omega
 ·split
  ·simp only [List.length_append, List.length_cons, List.length_nil]; omega
  ·simp
theorem attrT_few {n : Int} {a : TAttr} (hg : isGrp n = true) (h : attrOk n a = true) : (attrT a).length <= 30 := by
 have h1 := attrOk_rng h
 have hn := isGrp_rng hg
 have l1 := numT_four (n := a.seq) (by omega)
 have l2 := joinB_four (b := 44) (ws := a.deps.map numT) (by
  intro w hw
  obtain ⟨x, h2, rfl⟩ := List.mem_map.1 hw
  exact numT_four (by have := (h1.2.2.2 x h2).2; omega))
 rw [List.length_map] at l2
 simp only [attrT, List.length_append, List.length_cons]
 omega
end Go.Proofs.YtdpfilpckndhcaaGreatDoor.Rf

namespace Go.Proofs.YtdpfilpckndhcaaGreatDoor.Rf
set_option linter.unusedVariables false
set_option linter.unusedSimpArgs false
end Go.Proofs.YtdpfilpckndhcaaGreatDoor.Rf
