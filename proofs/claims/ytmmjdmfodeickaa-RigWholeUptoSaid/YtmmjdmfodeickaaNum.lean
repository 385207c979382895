/- A text of this proof. -/
import GoSem.Step

/- The numbers of some functions of this seat. -/
namespace Go.Sh
open Go
def KeepF.forget1 : FuncId := 0
def RigF.read1 : FuncId := 43
def RigF.write1 : FuncId := 45
def RigF.flush : FuncId := 47
def RigF.reg1 : FuncId := 40
def RigF.setreg1 : FuncId := 30
end Go.Sh
