/- A text of this proof. -/
import GoSem.Step

/- The numbers of some functions of this seat. -/
namespace Go.Sh
open Go
def KeepF.forget1 : FuncId := 0
def RigF.read1 : FuncId := 80
def RigF.write1 : FuncId := 65
def RigF.flush : FuncId := 0
def RigF.reg1 : FuncId := 0
def RigF.setreg1 : FuncId := 0
def TreeF.node1 : FuncId := 78
def TreeF.get1 : FuncId := 32
def OverF.puts1 : FuncId := 69
end Go.Sh
