/- A part of a proof: what is proved here is said at each theorem; it holds without any condition but those that the theorem names. -/
import Derived.Test.YtkjncodnmceilaaXS8
namespace Go.Acc
open Go Go.X
structure GStamp where
  N : Int
  Client : Int
def GStamp.c (x : GStamp) : List Value := [.int .i64 x.N, .int .i64 x.Client]
def GStamp.dec : List Value → Option GStamp
  | [.int .i64 a0, .int .i64 a1] => some ⟨a0, a1⟩
  | _ => none
theorem GStamp.dec_ok (l : List Value) (x : GStamp) (h : GStamp.dec l = some x) : l = x.c := by
  unfold GStamp.dec at h
  split at h
  · cases h; rfl
  · cases h
def dGStamp : Dec GStamp where
  dec := fun v => match v with | .agg ⟨l⟩ => GStamp.dec l | _ => none
  enc := fun x => .agg ⟨x.c⟩
  ok := fun v x h => by
    split at h
    · rw [GStamp.dec_ok _ _ h]
    · cases h
  plain := fun _ => rfl

structure GFile where
  Client : Int
  Op : Int
def GFile.c (x : GFile) : List Value := [.int .i64 x.Client, .int .i64 x.Op]
def GFile.dec : List Value → Option GFile
  | [.int .i64 a0, .int .i64 a1] => some ⟨a0, a1⟩
  | _ => none
theorem GFile.dec_ok (l : List Value) (x : GFile) (h : GFile.dec l = some x) : l = x.c := by
  unfold GFile.dec at h
  split at h
  · cases h; rfl
  · cases h
def dGFile : Dec GFile where
  dec := fun v => match v with | .agg ⟨l⟩ => GFile.dec l | _ => none
  enc := fun x => .agg ⟨x.c⟩
  ok := fun v x h => by
    split at h
    · rw [GFile.dec_ok _ _ h]
    · cases h
  plain := fun _ => rfl

structure GAddr where
  Client : Bool
  Id : Int
def GAddr.c (x : GAddr) : List Value := [.bool x.Client, .int .i64 x.Id]
def GAddr.dec : List Value → Option GAddr
  | [.bool a0, .int .i64 a1] => some ⟨a0, a1⟩
  | _ => none
theorem GAddr.dec_ok (l : List Value) (x : GAddr) (h : GAddr.dec l = some x) : l = x.c := by
  unfold GAddr.dec at h
  split at h
  · cases h; rfl
  · cases h
def dGAddr : Dec GAddr where
  dec := fun v => match v with | .agg ⟨l⟩ => GAddr.dec l | _ => none
  enc := fun x => .agg ⟨x.c⟩
  ok := fun v x h => by
    split at h
    · rw [GAddr.dec_ok _ _ h]
    · cases h
  plain := fun _ => rfl

structure GKey where
  Kind : Int
  A : Int
  B : Int
  C : Int
def GKey.c (x : GKey) : List Value := [.int .i64 x.Kind, .int .i64 x.A, .int .i64 x.B, .int .i64 x.C]
def GKey.dec : List Value → Option GKey
  | [.int .i64 a0, .int .i64 a1, .int .i64 a2, .int .i64 a3] => some ⟨a0, a1, a2, a3⟩
  | _ => none
theorem GKey.dec_ok (l : List Value) (x : GKey) (h : GKey.dec l = some x) : l = x.c := by
  unfold GKey.dec at h
  split at h
  · cases h; rfl
  · cases h
def dGKey : Dec GKey where
  dec := fun v => match v with | .agg ⟨l⟩ => GKey.dec l | _ => none
  enc := fun x => .agg ⟨x.c⟩
  ok := fun v x h => by
    split at h
    · rw [GKey.dec_ok _ _ h]
    · cases h
  plain := fun _ => rfl

structure GCommand where
  Kind : Int
  Client : Int
  Op : Int
  Name : ByteArray
  File : GFile
  New : GFile
  Size : Int
def GCommand.c (x : GCommand) : List Value := [.int .i64 x.Kind, .int .i64 x.Client, .int .i64 x.Op, .string x.Name, .int .i64 x.File.Client, .int .i64 x.File.Op, .int .i64 x.New.Client, .int .i64 x.New.Op, .int .i64 x.Size]
def GCommand.dec : List Value → Option GCommand
  | [.int .i64 a0, .int .i64 a1, .int .i64 a2, .string a3, .int .i64 a4, .int .i64 a5, .int .i64 a6, .int .i64 a7, .int .i64 a8] => some ⟨a0, a1, a2, a3, ⟨a4, a5⟩, ⟨a6, a7⟩, a8⟩
  | _ => none
theorem GCommand.dec_ok (l : List Value) (x : GCommand) (h : GCommand.dec l = some x) : l = x.c := by
  unfold GCommand.dec at h
  split at h
  · cases h; rfl
  · cases h
def dGCommand : Dec GCommand where
  dec := fun v => match v with | .agg ⟨l⟩ => GCommand.dec l | _ => none
  enc := fun x => .agg ⟨x.c⟩
  ok := fun v x h => by
    split at h
    · rw [GCommand.dec_ok _ _ h]
    · cases h
  plain := fun _ => rfl

structure GInst where
  Promised : GStamp
  Accepted : GStamp
  Command : GCommand
  Decided : Bool
def GInst.c (x : GInst) : List Value := [.int .i64 x.Promised.N, .int .i64 x.Promised.Client, .int .i64 x.Accepted.N, .int .i64 x.Accepted.Client, .int .i64 x.Command.Kind, .int .i64 x.Command.Client, .int .i64 x.Command.Op, .string x.Command.Name, .int .i64 x.Command.File.Client, .int .i64 x.Command.File.Op, .int .i64 x.Command.New.Client, .int .i64 x.Command.New.Op, .int .i64 x.Command.Size, .bool x.Decided]
def GInst.dec : List Value → Option GInst
  | [.int .i64 a0, .int .i64 a1, .int .i64 a2, .int .i64 a3, .int .i64 a4, .int .i64 a5, .int .i64 a6, .string a7, .int .i64 a8, .int .i64 a9, .int .i64 a10, .int .i64 a11, .int .i64 a12, .bool a13] => some ⟨⟨a0, a1⟩, ⟨a2, a3⟩, ⟨a4, a5, a6, a7, ⟨a8, a9⟩, ⟨a10, a11⟩, a12⟩, a13⟩
  | _ => none
theorem GInst.dec_ok (l : List Value) (x : GInst) (h : GInst.dec l = some x) : l = x.c := by
  unfold GInst.dec at h
  split at h
  · cases h; rfl
  · cases h
def dGInst : Dec GInst where
  dec := fun v => match v with | .agg ⟨l⟩ => GInst.dec l | _ => none
  enc := fun x => .agg ⟨x.c⟩
  ok := fun v x h => by
    split at h
    · rw [GInst.dec_ok _ _ h]
    · cases h
  plain := fun _ => rfl

structure GMsg0 where
  Kind : Int
  From : GAddr
  To : GAddr
  Op : Int
  Round : Int
  Key : GKey
  Stamp : GStamp
  Held : GStamp
  Command : GCommand
  Upto : Int
  More : Bool
def GMsg0.c (x : GMsg0) : List Value := [.int .i64 x.Kind, .bool x.From.Client, .int .i64 x.From.Id, .bool x.To.Client, .int .i64 x.To.Id, .int .i64 x.Op, .int .i64 x.Round, .int .i64 x.Key.Kind, .int .i64 x.Key.A, .int .i64 x.Key.B, .int .i64 x.Key.C, .int .i64 x.Stamp.N, .int .i64 x.Stamp.Client, .int .i64 x.Held.N, .int .i64 x.Held.Client, .slice none 0 0, .int .i64 x.Command.Kind, .int .i64 x.Command.Client, .int .i64 x.Command.Op, .string x.Command.Name, .int .i64 x.Command.File.Client, .int .i64 x.Command.File.Op, .int .i64 x.Command.New.Client, .int .i64 x.Command.New.Op, .int .i64 x.Command.Size, .int .i64 x.Upto, .slice none 0 0, .slice none 0 0, .slice none 0 0, .bool x.More]
def GMsg0.dec : List Value → Option GMsg0
  | [.int .i64 a0, .bool a1, .int .i64 a2, .bool a3, .int .i64 a4, .int .i64 a5, .int .i64 a6, .int .i64 a7, .int .i64 a8, .int .i64 a9, .int .i64 a10, .int .i64 a11, .int .i64 a12, .int .i64 a13, .int .i64 a14, .slice none 0 0, .int .i64 a16, .int .i64 a17, .int .i64 a18, .string a19, .int .i64 a20, .int .i64 a21, .int .i64 a22, .int .i64 a23, .int .i64 a24, .int .i64 a25, .slice none 0 0, .slice none 0 0, .slice none 0 0, .bool a29] => some ⟨a0, ⟨a1, a2⟩, ⟨a3, a4⟩, a5, a6, ⟨a7, a8, a9, a10⟩, ⟨a11, a12⟩, ⟨a13, a14⟩, ⟨a16, a17, a18, a19, ⟨a20, a21⟩, ⟨a22, a23⟩, a24⟩, a25, a29⟩
  | _ => none
theorem GMsg0.dec_ok (l : List Value) (x : GMsg0) (h : GMsg0.dec l = some x) : l = x.c := by
  unfold GMsg0.dec at h
  split at h
  · cases h; rfl
  · cases h
def dGMsg0 : Dec GMsg0 where
  dec := fun v => match v with | .agg ⟨l⟩ => GMsg0.dec l | _ => none
  enc := fun x => .agg ⟨x.c⟩
  ok := fun v x h => by
    split at h
    · rw [GMsg0.dec_ok _ _ h]
    · cases h
  plain := fun _ => rfl

end Go.Acc
