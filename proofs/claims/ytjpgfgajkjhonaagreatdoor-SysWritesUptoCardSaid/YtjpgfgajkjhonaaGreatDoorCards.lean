/-
  DERIVED. GIVEN WITH THE SEED: THE CARDS: each row of YtjpgfgajkjhonaaGreatDoorRows.lean that lists a variable, with what it lists TIED to the program's text (the seventh form; the later family's looks); each row that meets fmt, with fmt's text TOLD by the authors' own Lean function (tested against real Go, not proved from fmt's source: count such statements apart). THE CARD IS WHAT COUNTS. Prove the row's statement (the work); the ties are given (YtjpgfgajkjhonaaGreatDoorTie.lean); close each card by the builder's one call (the guide's Derived/Test/ToyasCard.lean, 'card_holds'). Laid BY PROGRAM, IN A SANDBOX (cutbox-door.mjs). By AI agents, Wed Nov 11 2026. No macro, syntax, notation, axiom, sorry.
-/
import Derived.Test.YtjpgfgajkjhonaaGreatDoorRows
import GoSem.ClaimSeven
namespace Go.Proofs.YtjpgfgajkjhonaaGreatDoor
namespace Rows

/-- THE TIED CARD OF 'lazarettolaw18.SysFloats'. -/
def sysFloatsCard : Claim7 := { stood := { row := sysFloatsRow, standIns := [], harness := (true, "fb61d506f3abd351cd0cb24463447613637b92c0a1bc6847831df1c18426aa80"), looks := true }, kinds := [], alts := [], laidByText := true, laidKinds := [.data, .data, .data, .data, .sentinel, .sentinel, .data, .pinned], laidTests := true, laidLooks := .later }
def SysFloatsCardSaid : Prop := Claim7.holds Tryz.pinned (.plain (OpenSpec.ofChange sysFloatsSpec)) sysFloatsCard

/-- THE TIED CARD OF 'lazarettolaw18.SysEnds'. -/
def sysEndsCard : Claim7 := { stood := { row := sysEndsRow, standIns := [], harness := (true, "fb61d506f3abd351cd0cb24463447613637b92c0a1bc6847831df1c18426aa80"), looks := true }, kinds := [], alts := [], laidByText := true, laidKinds := [.data, .data, .data, .data, .sentinel, .sentinel, .data, .pinned], laidTests := true, laidLooks := .later }
def SysEndsCardSaid : Prop := Claim7.holds Tryz.pinned (.plain (OpenSpec.ofChange sysEndsSpec)) sysEndsCard

/-- THE TIED CARD OF 'lazarettolaw18.SysThrows'. -/
def sysThrowsCard : Claim7 := { stood := { row := sysThrowsRow, standIns := [], harness := (true, "fb61d506f3abd351cd0cb24463447613637b92c0a1bc6847831df1c18426aa80"), looks := true }, kinds := [], alts := [], laidByText := true, laidKinds := [.data, .data, .data, .data, .sentinel, .sentinel, .data, .pinned], laidTests := true, laidLooks := .later }
def SysThrowsCardSaid : Prop := Claim7.holds Tryz.pinned (.plain (OpenSpec.ofChange sysThrowsSpec)) sysThrowsCard

/-- THE TIED CARD OF 'lazarettolaw18.SysHidden'. -/
def sysHiddenCard : Claim7 := { stood := { row := sysHiddenRow, standIns := [], harness := (true, "fb61d506f3abd351cd0cb24463447613637b92c0a1bc6847831df1c18426aa80"), looks := true }, kinds := [], alts := [], laidByText := true, laidKinds := [.data, .data, .data, .data, .sentinel, .sentinel, .data, .pinned], laidTests := true, laidLooks := .later }
def SysHiddenCardSaid : Prop := Claim7.holds Tryz.pinned (.plain (OpenSpec.ofChange sysHiddenSpec)) sysHiddenCard

/-- THE TIED CARD OF 'lazarettolaw18.SysRooms'. -/
def sysRoomsCard : Claim7 := { stood := { row := sysRoomsRow, standIns := [], harness := (true, "fb61d506f3abd351cd0cb24463447613637b92c0a1bc6847831df1c18426aa80"), looks := true }, kinds := [], alts := [], laidByText := true, laidKinds := [.data, .data, .data, .data, .sentinel, .sentinel, .data, .pinned], laidTests := true, laidLooks := .later }
def SysRoomsCardSaid : Prop := Claim7.holds Tryz.pinned (.plain (OpenSpec.ofChange sysRoomsSpec)) sysRoomsCard

/-- THE TIED CARD OF 'lazarettolaw18.SysWrites'. -/
def sysWritesCard : Claim7 := { stood := { row := sysWritesRow, standIns := [], harness := (true, "fb61d506f3abd351cd0cb24463447613637b92c0a1bc6847831df1c18426aa80"), looks := true }, kinds := [], alts := [], laidByText := true, laidKinds := [.data, .data, .data, .data, .sentinel, .sentinel, .data, .pinned], laidTests := true, laidLooks := .later }
def SysWritesCardSaid : Prop := Claim7.holds Tryz.pinned (.plain (OpenSpec.ofChange sysWritesSpec)) sysWritesCard

/-- THE SECOND FORM's CARD OF 'lazarettolaw18.SysFloats'. -/
def sysFloatsUptoCard : Claim7 := { stood := { row := sysFloatsUptoRow, standIns := [], harness := (true, "fb61d506f3abd351cd0cb24463447613637b92c0a1bc6847831df1c18426aa80"), looks := true }, kinds := [], alts := [], laidByText := true, laidKinds := [.data, .data, .data, .data, .sentinel, .sentinel, .data, .pinned], laidTests := true, laidLooks := .later }
def SysFloatsUptoCardSaid : Prop := Claim7.holds Tryz.pinned (.plain (OpenSpec.upto sysFloatsSpec)) sysFloatsUptoCard

/-- THE SECOND FORM's CARD OF 'lazarettolaw18.SysEnds'. -/
def sysEndsUptoCard : Claim7 := { stood := { row := sysEndsUptoRow, standIns := [], harness := (true, "fb61d506f3abd351cd0cb24463447613637b92c0a1bc6847831df1c18426aa80"), looks := true }, kinds := [], alts := [], laidByText := true, laidKinds := [.data, .data, .data, .data, .sentinel, .sentinel, .data, .pinned], laidTests := true, laidLooks := .later }
def SysEndsUptoCardSaid : Prop := Claim7.holds Tryz.pinned (.plain (OpenSpec.upto sysEndsSpec)) sysEndsUptoCard

/-- THE SECOND FORM's CARD OF 'lazarettolaw18.SysThrows'. -/
def sysThrowsUptoCard : Claim7 := { stood := { row := sysThrowsUptoRow, standIns := [], harness := (true, "fb61d506f3abd351cd0cb24463447613637b92c0a1bc6847831df1c18426aa80"), looks := true }, kinds := [], alts := [], laidByText := true, laidKinds := [.data, .data, .data, .data, .sentinel, .sentinel, .data, .pinned], laidTests := true, laidLooks := .later }
def SysThrowsUptoCardSaid : Prop := Claim7.holds Tryz.pinned (.plain (OpenSpec.upto sysThrowsSpec)) sysThrowsUptoCard

/-- THE SECOND FORM's CARD OF 'lazarettolaw18.SysHidden'. -/
def sysHiddenUptoCard : Claim7 := { stood := { row := sysHiddenUptoRow, standIns := [], harness := (true, "fb61d506f3abd351cd0cb24463447613637b92c0a1bc6847831df1c18426aa80"), looks := true }, kinds := [], alts := [], laidByText := true, laidKinds := [.data, .data, .data, .data, .sentinel, .sentinel, .data, .pinned], laidTests := true, laidLooks := .later }
def SysHiddenUptoCardSaid : Prop := Claim7.holds Tryz.pinned (.plain (OpenSpec.upto sysHiddenSpec)) sysHiddenUptoCard

/-- THE SECOND FORM's CARD OF 'lazarettolaw18.SysRooms'. -/
def sysRoomsUptoCard : Claim7 := { stood := { row := sysRoomsUptoRow, standIns := [], harness := (true, "fb61d506f3abd351cd0cb24463447613637b92c0a1bc6847831df1c18426aa80"), looks := true }, kinds := [], alts := [], laidByText := true, laidKinds := [.data, .data, .data, .data, .sentinel, .sentinel, .data, .pinned], laidTests := true, laidLooks := .later }
def SysRoomsUptoCardSaid : Prop := Claim7.holds Tryz.pinned (.plain (OpenSpec.upto sysRoomsSpec)) sysRoomsUptoCard

/-- THE SECOND FORM's CARD OF 'lazarettolaw18.SysWrites'. -/
def sysWritesUptoCard : Claim7 := { stood := { row := sysWritesUptoRow, standIns := [], harness := (true, "fb61d506f3abd351cd0cb24463447613637b92c0a1bc6847831df1c18426aa80"), looks := true }, kinds := [], alts := [], laidByText := true, laidKinds := [.data, .data, .data, .data, .sentinel, .sentinel, .data, .pinned], laidTests := true, laidLooks := .later }
def SysWritesUptoCardSaid : Prop := Claim7.holds Tryz.pinned (.plain (OpenSpec.upto sysWritesSpec)) sysWritesUptoCard
end Rows
end Go.Proofs.YtjpgfgajkjhonaaGreatDoor
