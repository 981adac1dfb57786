/- The constants of layer 14's laws, and closed calls on them, run by the kernel (printed by dev/ttab.py); conditions: none. -/
import Derived.Test.YtickdehehcmfbaaGreatDoorAmM04
import Derived.Test.YtickdehehcmfbaaGreatDoorAmM01
set_option linter.unusedVariables false
set_option linter.unusedSimpArgs false
namespace Go.Proofs.YtickdehehcmfbaaGreatDoor.Am
open Go Go.Proofs
noncomputable section
def Ej:List (List Nat×List AV):=[
 ([110,117,108,108],[.int .i64 0,.bool false,.str [],.str [],.slice none 0 (some 0),.slice none 0 (some 0),.int .i64 0]),
 ([116,114,117,101],[.int .i64 1,.bool true,.str [],.str [],.slice none 0 (some 0),.slice none 0 (some 0),.int .i64 0]),
 ([102,97,108,115,101],[.int .i64 1,.bool false,.str [],.str [],.slice none 0 (some 0),.slice none 0 (some 0),.int .i64 0]),
 ([48],[.int .i64 2,.bool false,.str [48],.str [],.slice none 0 (some 0),.slice none 0 (some 0),.int .i64 0]),
 ([49],[.int .i64 2,.bool false,.str [49],.str [],.slice none 0 (some 0),.slice none 0 (some 0),.int .i64 0]),
 ([45,53],[.int .i64 2,.bool false,.str [45,53],.str [],.slice none 0 (some 0),.slice none 0 (some 0),.int .i64 0]),
 ([49,56,52,52,54,55,52,52,48,55,51,55,48,57,53,53,49,54,49,54],[.int .i64 2,.bool false,.str [49,56,52,52,54,55,52,52,48,55,51,55,48,57,53,53,49,54,49,54],.str [],.slice none 0 (some 0),.slice none 0 (some 0),.int .i64 0]),
 ([34,97,34],[.int .i64 3,.bool false,.str [],.str [97],.slice none 0 (some 0),.slice none 0 (some 0),.int .i64 0]),
 ([34,98,34],[.int .i64 3,.bool false,.str [],.str [98],.slice none 0 (some 0),.slice none 0 (some 0),.int .i64 0]),
 ([34,34],[.int .i64 3,.bool false,.str [],.str [],.slice none 0 (some 0),.slice none 0 (some 0),.int .i64 0]),
 ([40,100,105,99,116,41],[.int .i64 4,.bool false,.str [],.str [],.slice none 0 (some 0),.slice none 0 (some 0),.int .i64 0]),
 ([34,112,117,116,34],[.int .i64 3,.bool false,.str [],.str [112,117,116],.slice none 0 (some 0),.slice none 0 (some 0),.int .i64 0]),
 ([55,55],[.int .i64 2,.bool false,.str [55,55],.str [],.slice none 0 (some 0),.slice none 0 (some 0),.int .i64 0])]
def A6:List AV:=[.int .u64 1,.int .u64 10,.int .u64 100,.int .u64 1000,.int .u64 10000,.int .u64 100000,.int .u64 1000000,.int .u64 10000000,.int .u64 100000000,.int .u64 1000000000,.int .u64 10000000000,.int .u64 100000000000,.int .u64 1000000000000,.int .u64 10000000000000,.int .u64 100000000000000,.int .u64 1000000000000000,.int .u64 10000000000000000,.int .u64 100000000000000000,.int .u64 1000000000000000000,.int .u64 10000000000000000000]
def SZ:List Row:=[
 ⟨44,[.agg [.int .i64 0,.bool false,.str [],.str [],.slice none 0 (some 0),.slice none 0 (some 0),.int .i64 0]],.bool true⟩,
 ⟨30,[.agg [.int .i64 0,.bool false,.str [],.str [],.slice none 0 (some 0),.slice none 0 (some 0),.int .i64 0]],.str [110,117,108,108]⟩,
 ⟨44,[.agg [.int .i64 1,.bool true,.str [],.str [],.slice none 0 (some 0),.slice none 0 (some 0),.int .i64 0]],.bool true⟩,
 ⟨30,[.agg [.int .i64 1,.bool true,.str [],.str [],.slice none 0 (some 0),.slice none 0 (some 0),.int .i64 0]],.str [116,114,117,101]⟩,
 ⟨44,[.agg [.int .i64 1,.bool false,.str [],.str [],.slice none 0 (some 0),.slice none 0 (some 0),.int .i64 0]],.bool true⟩,
 ⟨30,[.agg [.int .i64 1,.bool false,.str [],.str [],.slice none 0 (some 0),.slice none 0 (some 0),.int .i64 0]],.str [102,97,108,115,101]⟩,
 ⟨44,[.agg [.int .i64 2,.bool false,.str [48],.str [],.slice none 0 (some 0),.slice none 0 (some 0),.int .i64 0]],.bool true⟩,
 ⟨30,[.agg [.int .i64 2,.bool false,.str [48],.str [],.slice none 0 (some 0),.slice none 0 (some 0),.int .i64 0]],.str [48]⟩,
 ⟨44,[.agg [.int .i64 2,.bool false,.str [49],.str [],.slice none 0 (some 0),.slice none 0 (some 0),.int .i64 0]],.bool true⟩,
 ⟨30,[.agg [.int .i64 2,.bool false,.str [49],.str [],.slice none 0 (some 0),.slice none 0 (some 0),.int .i64 0]],.str [49]⟩,
 ⟨44,[.agg [.int .i64 2,.bool false,.str [45,53],.str [],.slice none 0 (some 0),.slice none 0 (some 0),.int .i64 0]],.bool true⟩,
 ⟨30,[.agg [.int .i64 2,.bool false,.str [45,53],.str [],.slice none 0 (some 0),.slice none 0 (some 0),.int .i64 0]],.str [45,53]⟩,
 ⟨44,[.agg [.int .i64 2,.bool false,.str [49,56,52,52,54,55,52,52,48,55,51,55,48,57,53,53,49,54,49,54],.str [],.slice none 0 (some 0),.slice none 0 (some 0),.int .i64 0]],.bool true⟩,
 ⟨30,[.agg [.int .i64 2,.bool false,.str [49,56,52,52,54,55,52,52,48,55,51,55,48,57,53,53,49,54,49,54],.str [],.slice none 0 (some 0),.slice none 0 (some 0),.int .i64 0]],.str [49,56,52,52,54,55,52,52,48,55,51,55,48,57,53,53,49,54,49,54]⟩]
def Sa:List Row:=[
 ⟨44,[.agg [.int .i64 3,.bool false,.str [],.str [97],.slice none 0 (some 0),.slice none 0 (some 0),.int .i64 0]],.bool true⟩,
 ⟨30,[.agg [.int .i64 3,.bool false,.str [],.str [97],.slice none 0 (some 0),.slice none 0 (some 0),.int .i64 0]],.str [34,97,34]⟩,
 ⟨44,[.agg [.int .i64 3,.bool false,.str [],.str [98],.slice none 0 (some 0),.slice none 0 (some 0),.int .i64 0]],.bool true⟩,
 ⟨30,[.agg [.int .i64 3,.bool false,.str [],.str [98],.slice none 0 (some 0),.slice none 0 (some 0),.int .i64 0]],.str [34,98,34]⟩,
 ⟨44,[.agg [.int .i64 3,.bool false,.str [],.str [],.slice none 0 (some 0),.slice none 0 (some 0),.int .i64 0]],.bool true⟩,
 ⟨30,[.agg [.int .i64 3,.bool false,.str [],.str [],.slice none 0 (some 0),.slice none 0 (some 0),.int .i64 0]],.str [34,34]⟩,
 ⟨44,[.agg [.int .i64 4,.bool false,.str [],.str [],.slice none 0 (some 0),.slice none 0 (some 0),.int .i64 0]],.bool true⟩,
 ⟨30,[.agg [.int .i64 4,.bool false,.str [],.str [],.slice none 0 (some 0),.slice none 0 (some 0),.int .i64 0]],.str [40,100,105,99,116,41]⟩,
 ⟨44,[.agg [.int .i64 3,.bool false,.str [],.str [112,117,116],.slice none 0 (some 0),.slice none 0 (some 0),.int .i64 0]],.bool true⟩,
 ⟨30,[.agg [.int .i64 3,.bool false,.str [],.str [112,117,116],.slice none 0 (some 0),.slice none 0 (some 0),.int .i64 0]],.str [34,112,117,116,34]⟩,
 ⟨44,[.agg [.int .i64 2,.bool false,.str [55,55],.str [],.slice none 0 (some 0),.slice none 0 (some 0),.int .i64 0]],.bool true⟩,
 ⟨30,[.agg [.int .i64 2,.bool false,.str [55,55],.str [],.slice none 0 (some 0),.slice none 0 (some 0),.int .i64 0]],.str [55,55]⟩,
 ⟨45,[.int .i64 (-3)],.str [45,51]⟩,
 ⟨45,[.int .i64 (-2)],.str [45,50]⟩]
def Sb:List Row:=[
 ⟨45,[.int .i64 (-1)],.str [45,49]⟩,
 ⟨45,[.int .i64 (0)],.str [48]⟩,
 ⟨45,[.int .i64 (1)],.str [49]⟩,
 ⟨45,[.int .i64 (2)],.str [50]⟩,
 ⟨45,[.int .i64 (3)],.str [51]⟩,
 ⟨45,[.int .i64 (4)],.str [52]⟩,
 ⟨45,[.int .i64 (5)],.str [53]⟩,
 ⟨45,[.int .i64 (6)],.str [54]⟩,
 ⟨45,[.int .i64 (7)],.str [55]⟩,
 ⟨45,[.int .i64 (8)],.str [56]⟩,
 ⟨45,[.int .i64 (9)],.str [57]⟩,
 ⟨45,[.int .i64 (10)],.str [49,48]⟩,
 ⟨44,[.agg [.int .i64 5,.bool false,.str [],.str [],.slice none 0 (some 0),.slice none 0 (some 0),.int .i64 3]],.bool true⟩,
 ⟨44,[.agg [.int .i64 2,.bool false,.str [48,49],.str [],.slice none 0 (some 0),.slice none 0 (some 0),.int .i64 0]],.bool false⟩]
def Sc:List Row:=[
 ⟨127,[.agg [.int .i64 0,.bool false,.str [],.str [],.slice none 0 (some 0),.slice none 0 (some 0),.int .i64 0],.agg [.int .i64 0,.bool false,.str [],.str [],.slice none 0 (some 0),.slice none 0 (some 0),.int .i64 0]],.bool true⟩,
 ⟨127,[.agg [.int .i64 0,.bool false,.str [],.str [],.slice none 0 (some 0),.slice none 0 (some 0),.int .i64 0],.agg [.int .i64 1,.bool true,.str [],.str [],.slice none 0 (some 0),.slice none 0 (some 0),.int .i64 0]],.bool false⟩,
 ⟨127,[.agg [.int .i64 0,.bool false,.str [],.str [],.slice none 0 (some 0),.slice none 0 (some 0),.int .i64 0],.agg [.int .i64 1,.bool false,.str [],.str [],.slice none 0 (some 0),.slice none 0 (some 0),.int .i64 0]],.bool false⟩,
 ⟨127,[.agg [.int .i64 0,.bool false,.str [],.str [],.slice none 0 (some 0),.slice none 0 (some 0),.int .i64 0],.agg [.int .i64 2,.bool false,.str [48],.str [],.slice none 0 (some 0),.slice none 0 (some 0),.int .i64 0]],.bool false⟩,
 ⟨127,[.agg [.int .i64 0,.bool false,.str [],.str [],.slice none 0 (some 0),.slice none 0 (some 0),.int .i64 0],.agg [.int .i64 2,.bool false,.str [49],.str [],.slice none 0 (some 0),.slice none 0 (some 0),.int .i64 0]],.bool false⟩,
 ⟨127,[.agg [.int .i64 0,.bool false,.str [],.str [],.slice none 0 (some 0),.slice none 0 (some 0),.int .i64 0],.agg [.int .i64 2,.bool false,.str [45,53],.str [],.slice none 0 (some 0),.slice none 0 (some 0),.int .i64 0]],.bool false⟩,
 ⟨127,[.agg [.int .i64 0,.bool false,.str [],.str [],.slice none 0 (some 0),.slice none 0 (some 0),.int .i64 0],.agg [.int .i64 2,.bool false,.str [49,56,52,52,54,55,52,52,48,55,51,55,48,57,53,53,49,54,49,54],.str [],.slice none 0 (some 0),.slice none 0 (some 0),.int .i64 0]],.bool false⟩,
 ⟨127,[.agg [.int .i64 0,.bool false,.str [],.str [],.slice none 0 (some 0),.slice none 0 (some 0),.int .i64 0],.agg [.int .i64 3,.bool false,.str [],.str [97],.slice none 0 (some 0),.slice none 0 (some 0),.int .i64 0]],.bool false⟩,
 ⟨127,[.agg [.int .i64 0,.bool false,.str [],.str [],.slice none 0 (some 0),.slice none 0 (some 0),.int .i64 0],.agg [.int .i64 3,.bool false,.str [],.str [98],.slice none 0 (some 0),.slice none 0 (some 0),.int .i64 0]],.bool false⟩,
 ⟨127,[.agg [.int .i64 0,.bool false,.str [],.str [],.slice none 0 (some 0),.slice none 0 (some 0),.int .i64 0],.agg [.int .i64 3,.bool false,.str [],.str [],.slice none 0 (some 0),.slice none 0 (some 0),.int .i64 0]],.bool false⟩,
 ⟨127,[.agg [.int .i64 0,.bool false,.str [],.str [],.slice none 0 (some 0),.slice none 0 (some 0),.int .i64 0],.agg [.int .i64 4,.bool false,.str [],.str [],.slice none 0 (some 0),.slice none 0 (some 0),.int .i64 0]],.bool false⟩,
 ⟨127,[.agg [.int .i64 1,.bool true,.str [],.str [],.slice none 0 (some 0),.slice none 0 (some 0),.int .i64 0],.agg [.int .i64 0,.bool false,.str [],.str [],.slice none 0 (some 0),.slice none 0 (some 0),.int .i64 0]],.bool false⟩,
 ⟨127,[.agg [.int .i64 1,.bool true,.str [],.str [],.slice none 0 (some 0),.slice none 0 (some 0),.int .i64 0],.agg [.int .i64 1,.bool true,.str [],.str [],.slice none 0 (some 0),.slice none 0 (some 0),.int .i64 0]],.bool true⟩,
 ⟨127,[.agg [.int .i64 1,.bool true,.str [],.str [],.slice none 0 (some 0),.slice none 0 (some 0),.int .i64 0],.agg [.int .i64 1,.bool false,.str [],.str [],.slice none 0 (some 0),.slice none 0 (some 0),.int .i64 0]],.bool false⟩]
def Sd:List Row:=[
 ⟨127,[.agg [.int .i64 1,.bool true,.str [],.str [],.slice none 0 (some 0),.slice none 0 (some 0),.int .i64 0],.agg [.int .i64 2,.bool false,.str [48],.str [],.slice none 0 (some 0),.slice none 0 (some 0),.int .i64 0]],.bool false⟩,
 ⟨127,[.agg [.int .i64 1,.bool true,.str [],.str [],.slice none 0 (some 0),.slice none 0 (some 0),.int .i64 0],.agg [.int .i64 2,.bool false,.str [49],.str [],.slice none 0 (some 0),.slice none 0 (some 0),.int .i64 0]],.bool false⟩,
 ⟨127,[.agg [.int .i64 1,.bool true,.str [],.str [],.slice none 0 (some 0),.slice none 0 (some 0),.int .i64 0],.agg [.int .i64 2,.bool false,.str [45,53],.str [],.slice none 0 (some 0),.slice none 0 (some 0),.int .i64 0]],.bool false⟩,
 ⟨127,[.agg [.int .i64 1,.bool true,.str [],.str [],.slice none 0 (some 0),.slice none 0 (some 0),.int .i64 0],.agg [.int .i64 2,.bool false,.str [49,56,52,52,54,55,52,52,48,55,51,55,48,57,53,53,49,54,49,54],.str [],.slice none 0 (some 0),.slice none 0 (some 0),.int .i64 0]],.bool false⟩,
 ⟨127,[.agg [.int .i64 1,.bool true,.str [],.str [],.slice none 0 (some 0),.slice none 0 (some 0),.int .i64 0],.agg [.int .i64 3,.bool false,.str [],.str [97],.slice none 0 (some 0),.slice none 0 (some 0),.int .i64 0]],.bool false⟩,
 ⟨127,[.agg [.int .i64 1,.bool true,.str [],.str [],.slice none 0 (some 0),.slice none 0 (some 0),.int .i64 0],.agg [.int .i64 3,.bool false,.str [],.str [98],.slice none 0 (some 0),.slice none 0 (some 0),.int .i64 0]],.bool false⟩,
 ⟨127,[.agg [.int .i64 1,.bool true,.str [],.str [],.slice none 0 (some 0),.slice none 0 (some 0),.int .i64 0],.agg [.int .i64 3,.bool false,.str [],.str [],.slice none 0 (some 0),.slice none 0 (some 0),.int .i64 0]],.bool false⟩,
 ⟨127,[.agg [.int .i64 1,.bool true,.str [],.str [],.slice none 0 (some 0),.slice none 0 (some 0),.int .i64 0],.agg [.int .i64 4,.bool false,.str [],.str [],.slice none 0 (some 0),.slice none 0 (some 0),.int .i64 0]],.bool false⟩,
 ⟨127,[.agg [.int .i64 1,.bool false,.str [],.str [],.slice none 0 (some 0),.slice none 0 (some 0),.int .i64 0],.agg [.int .i64 0,.bool false,.str [],.str [],.slice none 0 (some 0),.slice none 0 (some 0),.int .i64 0]],.bool false⟩,
 ⟨127,[.agg [.int .i64 1,.bool false,.str [],.str [],.slice none 0 (some 0),.slice none 0 (some 0),.int .i64 0],.agg [.int .i64 1,.bool true,.str [],.str [],.slice none 0 (some 0),.slice none 0 (some 0),.int .i64 0]],.bool false⟩,
 ⟨127,[.agg [.int .i64 1,.bool false,.str [],.str [],.slice none 0 (some 0),.slice none 0 (some 0),.int .i64 0],.agg [.int .i64 1,.bool false,.str [],.str [],.slice none 0 (some 0),.slice none 0 (some 0),.int .i64 0]],.bool true⟩,
 ⟨127,[.agg [.int .i64 1,.bool false,.str [],.str [],.slice none 0 (some 0),.slice none 0 (some 0),.int .i64 0],.agg [.int .i64 2,.bool false,.str [48],.str [],.slice none 0 (some 0),.slice none 0 (some 0),.int .i64 0]],.bool false⟩,
 ⟨127,[.agg [.int .i64 1,.bool false,.str [],.str [],.slice none 0 (some 0),.slice none 0 (some 0),.int .i64 0],.agg [.int .i64 2,.bool false,.str [49],.str [],.slice none 0 (some 0),.slice none 0 (some 0),.int .i64 0]],.bool false⟩,
 ⟨127,[.agg [.int .i64 1,.bool false,.str [],.str [],.slice none 0 (some 0),.slice none 0 (some 0),.int .i64 0],.agg [.int .i64 2,.bool false,.str [45,53],.str [],.slice none 0 (some 0),.slice none 0 (some 0),.int .i64 0]],.bool false⟩]
def Se:List Row:=[
 ⟨127,[.agg [.int .i64 1,.bool false,.str [],.str [],.slice none 0 (some 0),.slice none 0 (some 0),.int .i64 0],.agg [.int .i64 2,.bool false,.str [49,56,52,52,54,55,52,52,48,55,51,55,48,57,53,53,49,54,49,54],.str [],.slice none 0 (some 0),.slice none 0 (some 0),.int .i64 0]],.bool false⟩,
 ⟨127,[.agg [.int .i64 1,.bool false,.str [],.str [],.slice none 0 (some 0),.slice none 0 (some 0),.int .i64 0],.agg [.int .i64 3,.bool false,.str [],.str [97],.slice none 0 (some 0),.slice none 0 (some 0),.int .i64 0]],.bool false⟩,
 ⟨127,[.agg [.int .i64 1,.bool false,.str [],.str [],.slice none 0 (some 0),.slice none 0 (some 0),.int .i64 0],.agg [.int .i64 3,.bool false,.str [],.str [98],.slice none 0 (some 0),.slice none 0 (some 0),.int .i64 0]],.bool false⟩,
 ⟨127,[.agg [.int .i64 1,.bool false,.str [],.str [],.slice none 0 (some 0),.slice none 0 (some 0),.int .i64 0],.agg [.int .i64 3,.bool false,.str [],.str [],.slice none 0 (some 0),.slice none 0 (some 0),.int .i64 0]],.bool false⟩,
 ⟨127,[.agg [.int .i64 1,.bool false,.str [],.str [],.slice none 0 (some 0),.slice none 0 (some 0),.int .i64 0],.agg [.int .i64 4,.bool false,.str [],.str [],.slice none 0 (some 0),.slice none 0 (some 0),.int .i64 0]],.bool false⟩,
 ⟨127,[.agg [.int .i64 2,.bool false,.str [48],.str [],.slice none 0 (some 0),.slice none 0 (some 0),.int .i64 0],.agg [.int .i64 0,.bool false,.str [],.str [],.slice none 0 (some 0),.slice none 0 (some 0),.int .i64 0]],.bool false⟩,
 ⟨127,[.agg [.int .i64 2,.bool false,.str [48],.str [],.slice none 0 (some 0),.slice none 0 (some 0),.int .i64 0],.agg [.int .i64 1,.bool true,.str [],.str [],.slice none 0 (some 0),.slice none 0 (some 0),.int .i64 0]],.bool false⟩,
 ⟨127,[.agg [.int .i64 2,.bool false,.str [48],.str [],.slice none 0 (some 0),.slice none 0 (some 0),.int .i64 0],.agg [.int .i64 1,.bool false,.str [],.str [],.slice none 0 (some 0),.slice none 0 (some 0),.int .i64 0]],.bool false⟩,
 ⟨127,[.agg [.int .i64 2,.bool false,.str [48],.str [],.slice none 0 (some 0),.slice none 0 (some 0),.int .i64 0],.agg [.int .i64 2,.bool false,.str [48],.str [],.slice none 0 (some 0),.slice none 0 (some 0),.int .i64 0]],.bool true⟩,
 ⟨127,[.agg [.int .i64 2,.bool false,.str [48],.str [],.slice none 0 (some 0),.slice none 0 (some 0),.int .i64 0],.agg [.int .i64 2,.bool false,.str [49],.str [],.slice none 0 (some 0),.slice none 0 (some 0),.int .i64 0]],.bool false⟩,
 ⟨127,[.agg [.int .i64 2,.bool false,.str [48],.str [],.slice none 0 (some 0),.slice none 0 (some 0),.int .i64 0],.agg [.int .i64 2,.bool false,.str [45,53],.str [],.slice none 0 (some 0),.slice none 0 (some 0),.int .i64 0]],.bool false⟩,
 ⟨127,[.agg [.int .i64 2,.bool false,.str [48],.str [],.slice none 0 (some 0),.slice none 0 (some 0),.int .i64 0],.agg [.int .i64 2,.bool false,.str [49,56,52,52,54,55,52,52,48,55,51,55,48,57,53,53,49,54,49,54],.str [],.slice none 0 (some 0),.slice none 0 (some 0),.int .i64 0]],.bool false⟩,
 ⟨127,[.agg [.int .i64 2,.bool false,.str [48],.str [],.slice none 0 (some 0),.slice none 0 (some 0),.int .i64 0],.agg [.int .i64 3,.bool false,.str [],.str [97],.slice none 0 (some 0),.slice none 0 (some 0),.int .i64 0]],.bool false⟩,
 ⟨127,[.agg [.int .i64 2,.bool false,.str [48],.str [],.slice none 0 (some 0),.slice none 0 (some 0),.int .i64 0],.agg [.int .i64 3,.bool false,.str [],.str [98],.slice none 0 (some 0),.slice none 0 (some 0),.int .i64 0]],.bool false⟩]
def Sf:List Row:=[
 ⟨127,[.agg [.int .i64 2,.bool false,.str [48],.str [],.slice none 0 (some 0),.slice none 0 (some 0),.int .i64 0],.agg [.int .i64 3,.bool false,.str [],.str [],.slice none 0 (some 0),.slice none 0 (some 0),.int .i64 0]],.bool false⟩,
 ⟨127,[.agg [.int .i64 2,.bool false,.str [48],.str [],.slice none 0 (some 0),.slice none 0 (some 0),.int .i64 0],.agg [.int .i64 4,.bool false,.str [],.str [],.slice none 0 (some 0),.slice none 0 (some 0),.int .i64 0]],.bool false⟩,
 ⟨127,[.agg [.int .i64 2,.bool false,.str [49],.str [],.slice none 0 (some 0),.slice none 0 (some 0),.int .i64 0],.agg [.int .i64 0,.bool false,.str [],.str [],.slice none 0 (some 0),.slice none 0 (some 0),.int .i64 0]],.bool false⟩,
 ⟨127,[.agg [.int .i64 2,.bool false,.str [49],.str [],.slice none 0 (some 0),.slice none 0 (some 0),.int .i64 0],.agg [.int .i64 1,.bool true,.str [],.str [],.slice none 0 (some 0),.slice none 0 (some 0),.int .i64 0]],.bool false⟩,
 ⟨127,[.agg [.int .i64 2,.bool false,.str [49],.str [],.slice none 0 (some 0),.slice none 0 (some 0),.int .i64 0],.agg [.int .i64 1,.bool false,.str [],.str [],.slice none 0 (some 0),.slice none 0 (some 0),.int .i64 0]],.bool false⟩,
 ⟨127,[.agg [.int .i64 2,.bool false,.str [49],.str [],.slice none 0 (some 0),.slice none 0 (some 0),.int .i64 0],.agg [.int .i64 2,.bool false,.str [48],.str [],.slice none 0 (some 0),.slice none 0 (some 0),.int .i64 0]],.bool false⟩,
 ⟨127,[.agg [.int .i64 2,.bool false,.str [49],.str [],.slice none 0 (some 0),.slice none 0 (some 0),.int .i64 0],.agg [.int .i64 2,.bool false,.str [49],.str [],.slice none 0 (some 0),.slice none 0 (some 0),.int .i64 0]],.bool true⟩,
 ⟨127,[.agg [.int .i64 2,.bool false,.str [49],.str [],.slice none 0 (some 0),.slice none 0 (some 0),.int .i64 0],.agg [.int .i64 2,.bool false,.str [45,53],.str [],.slice none 0 (some 0),.slice none 0 (some 0),.int .i64 0]],.bool false⟩,
 ⟨127,[.agg [.int .i64 2,.bool false,.str [49],.str [],.slice none 0 (some 0),.slice none 0 (some 0),.int .i64 0],.agg [.int .i64 2,.bool false,.str [49,56,52,52,54,55,52,52,48,55,51,55,48,57,53,53,49,54,49,54],.str [],.slice none 0 (some 0),.slice none 0 (some 0),.int .i64 0]],.bool false⟩,
 ⟨127,[.agg [.int .i64 2,.bool false,.str [49],.str [],.slice none 0 (some 0),.slice none 0 (some 0),.int .i64 0],.agg [.int .i64 3,.bool false,.str [],.str [97],.slice none 0 (some 0),.slice none 0 (some 0),.int .i64 0]],.bool false⟩,
 ⟨127,[.agg [.int .i64 2,.bool false,.str [49],.str [],.slice none 0 (some 0),.slice none 0 (some 0),.int .i64 0],.agg [.int .i64 3,.bool false,.str [],.str [98],.slice none 0 (some 0),.slice none 0 (some 0),.int .i64 0]],.bool false⟩,
 ⟨127,[.agg [.int .i64 2,.bool false,.str [49],.str [],.slice none 0 (some 0),.slice none 0 (some 0),.int .i64 0],.agg [.int .i64 3,.bool false,.str [],.str [],.slice none 0 (some 0),.slice none 0 (some 0),.int .i64 0]],.bool false⟩,
 ⟨127,[.agg [.int .i64 2,.bool false,.str [49],.str [],.slice none 0 (some 0),.slice none 0 (some 0),.int .i64 0],.agg [.int .i64 4,.bool false,.str [],.str [],.slice none 0 (some 0),.slice none 0 (some 0),.int .i64 0]],.bool false⟩,
 ⟨127,[.agg [.int .i64 2,.bool false,.str [45,53],.str [],.slice none 0 (some 0),.slice none 0 (some 0),.int .i64 0],.agg [.int .i64 0,.bool false,.str [],.str [],.slice none 0 (some 0),.slice none 0 (some 0),.int .i64 0]],.bool false⟩]
def Sg:List Row:=[
 ⟨127,[.agg [.int .i64 2,.bool false,.str [45,53],.str [],.slice none 0 (some 0),.slice none 0 (some 0),.int .i64 0],.agg [.int .i64 1,.bool true,.str [],.str [],.slice none 0 (some 0),.slice none 0 (some 0),.int .i64 0]],.bool false⟩,
 ⟨127,[.agg [.int .i64 2,.bool false,.str [45,53],.str [],.slice none 0 (some 0),.slice none 0 (some 0),.int .i64 0],.agg [.int .i64 1,.bool false,.str [],.str [],.slice none 0 (some 0),.slice none 0 (some 0),.int .i64 0]],.bool false⟩,
 ⟨127,[.agg [.int .i64 2,.bool false,.str [45,53],.str [],.slice none 0 (some 0),.slice none 0 (some 0),.int .i64 0],.agg [.int .i64 2,.bool false,.str [48],.str [],.slice none 0 (some 0),.slice none 0 (some 0),.int .i64 0]],.bool false⟩,
 ⟨127,[.agg [.int .i64 2,.bool false,.str [45,53],.str [],.slice none 0 (some 0),.slice none 0 (some 0),.int .i64 0],.agg [.int .i64 2,.bool false,.str [49],.str [],.slice none 0 (some 0),.slice none 0 (some 0),.int .i64 0]],.bool false⟩,
 ⟨127,[.agg [.int .i64 2,.bool false,.str [45,53],.str [],.slice none 0 (some 0),.slice none 0 (some 0),.int .i64 0],.agg [.int .i64 2,.bool false,.str [45,53],.str [],.slice none 0 (some 0),.slice none 0 (some 0),.int .i64 0]],.bool true⟩,
 ⟨127,[.agg [.int .i64 2,.bool false,.str [45,53],.str [],.slice none 0 (some 0),.slice none 0 (some 0),.int .i64 0],.agg [.int .i64 2,.bool false,.str [49,56,52,52,54,55,52,52,48,55,51,55,48,57,53,53,49,54,49,54],.str [],.slice none 0 (some 0),.slice none 0 (some 0),.int .i64 0]],.bool false⟩,
 ⟨127,[.agg [.int .i64 2,.bool false,.str [45,53],.str [],.slice none 0 (some 0),.slice none 0 (some 0),.int .i64 0],.agg [.int .i64 3,.bool false,.str [],.str [97],.slice none 0 (some 0),.slice none 0 (some 0),.int .i64 0]],.bool false⟩,
 ⟨127,[.agg [.int .i64 2,.bool false,.str [45,53],.str [],.slice none 0 (some 0),.slice none 0 (some 0),.int .i64 0],.agg [.int .i64 3,.bool false,.str [],.str [98],.slice none 0 (some 0),.slice none 0 (some 0),.int .i64 0]],.bool false⟩,
 ⟨127,[.agg [.int .i64 2,.bool false,.str [45,53],.str [],.slice none 0 (some 0),.slice none 0 (some 0),.int .i64 0],.agg [.int .i64 3,.bool false,.str [],.str [],.slice none 0 (some 0),.slice none 0 (some 0),.int .i64 0]],.bool false⟩,
 ⟨127,[.agg [.int .i64 2,.bool false,.str [45,53],.str [],.slice none 0 (some 0),.slice none 0 (some 0),.int .i64 0],.agg [.int .i64 4,.bool false,.str [],.str [],.slice none 0 (some 0),.slice none 0 (some 0),.int .i64 0]],.bool false⟩,
 ⟨127,[.agg [.int .i64 2,.bool false,.str [49,56,52,52,54,55,52,52,48,55,51,55,48,57,53,53,49,54,49,54],.str [],.slice none 0 (some 0),.slice none 0 (some 0),.int .i64 0],.agg [.int .i64 0,.bool false,.str [],.str [],.slice none 0 (some 0),.slice none 0 (some 0),.int .i64 0]],.bool false⟩,
 ⟨127,[.agg [.int .i64 2,.bool false,.str [49,56,52,52,54,55,52,52,48,55,51,55,48,57,53,53,49,54,49,54],.str [],.slice none 0 (some 0),.slice none 0 (some 0),.int .i64 0],.agg [.int .i64 1,.bool true,.str [],.str [],.slice none 0 (some 0),.slice none 0 (some 0),.int .i64 0]],.bool false⟩,
 ⟨127,[.agg [.int .i64 2,.bool false,.str [49,56,52,52,54,55,52,52,48,55,51,55,48,57,53,53,49,54,49,54],.str [],.slice none 0 (some 0),.slice none 0 (some 0),.int .i64 0],.agg [.int .i64 1,.bool false,.str [],.str [],.slice none 0 (some 0),.slice none 0 (some 0),.int .i64 0]],.bool false⟩,
 ⟨127,[.agg [.int .i64 2,.bool false,.str [49,56,52,52,54,55,52,52,48,55,51,55,48,57,53,53,49,54,49,54],.str [],.slice none 0 (some 0),.slice none 0 (some 0),.int .i64 0],.agg [.int .i64 2,.bool false,.str [48],.str [],.slice none 0 (some 0),.slice none 0 (some 0),.int .i64 0]],.bool false⟩]
def Si:List Row:=[
 ⟨127,[.agg [.int .i64 2,.bool false,.str [49,56,52,52,54,55,52,52,48,55,51,55,48,57,53,53,49,54,49,54],.str [],.slice none 0 (some 0),.slice none 0 (some 0),.int .i64 0],.agg [.int .i64 2,.bool false,.str [49],.str [],.slice none 0 (some 0),.slice none 0 (some 0),.int .i64 0]],.bool false⟩,
 ⟨127,[.agg [.int .i64 2,.bool false,.str [49,56,52,52,54,55,52,52,48,55,51,55,48,57,53,53,49,54,49,54],.str [],.slice none 0 (some 0),.slice none 0 (some 0),.int .i64 0],.agg [.int .i64 2,.bool false,.str [45,53],.str [],.slice none 0 (some 0),.slice none 0 (some 0),.int .i64 0]],.bool false⟩,
 ⟨127,[.agg [.int .i64 2,.bool false,.str [49,56,52,52,54,55,52,52,48,55,51,55,48,57,53,53,49,54,49,54],.str [],.slice none 0 (some 0),.slice none 0 (some 0),.int .i64 0],.agg [.int .i64 2,.bool false,.str [49,56,52,52,54,55,52,52,48,55,51,55,48,57,53,53,49,54,49,54],.str [],.slice none 0 (some 0),.slice none 0 (some 0),.int .i64 0]],.bool true⟩,
 ⟨127,[.agg [.int .i64 2,.bool false,.str [49,56,52,52,54,55,52,52,48,55,51,55,48,57,53,53,49,54,49,54],.str [],.slice none 0 (some 0),.slice none 0 (some 0),.int .i64 0],.agg [.int .i64 3,.bool false,.str [],.str [97],.slice none 0 (some 0),.slice none 0 (some 0),.int .i64 0]],.bool false⟩,
 ⟨127,[.agg [.int .i64 2,.bool false,.str [49,56,52,52,54,55,52,52,48,55,51,55,48,57,53,53,49,54,49,54],.str [],.slice none 0 (some 0),.slice none 0 (some 0),.int .i64 0],.agg [.int .i64 3,.bool false,.str [],.str [98],.slice none 0 (some 0),.slice none 0 (some 0),.int .i64 0]],.bool false⟩,
 ⟨127,[.agg [.int .i64 2,.bool false,.str [49,56,52,52,54,55,52,52,48,55,51,55,48,57,53,53,49,54,49,54],.str [],.slice none 0 (some 0),.slice none 0 (some 0),.int .i64 0],.agg [.int .i64 3,.bool false,.str [],.str [],.slice none 0 (some 0),.slice none 0 (some 0),.int .i64 0]],.bool false⟩,
 ⟨127,[.agg [.int .i64 2,.bool false,.str [49,56,52,52,54,55,52,52,48,55,51,55,48,57,53,53,49,54,49,54],.str [],.slice none 0 (some 0),.slice none 0 (some 0),.int .i64 0],.agg [.int .i64 4,.bool false,.str [],.str [],.slice none 0 (some 0),.slice none 0 (some 0),.int .i64 0]],.bool false⟩,
 ⟨127,[.agg [.int .i64 3,.bool false,.str [],.str [97],.slice none 0 (some 0),.slice none 0 (some 0),.int .i64 0],.agg [.int .i64 0,.bool false,.str [],.str [],.slice none 0 (some 0),.slice none 0 (some 0),.int .i64 0]],.bool false⟩,
 ⟨127,[.agg [.int .i64 3,.bool false,.str [],.str [97],.slice none 0 (some 0),.slice none 0 (some 0),.int .i64 0],.agg [.int .i64 1,.bool true,.str [],.str [],.slice none 0 (some 0),.slice none 0 (some 0),.int .i64 0]],.bool false⟩,
 ⟨127,[.agg [.int .i64 3,.bool false,.str [],.str [97],.slice none 0 (some 0),.slice none 0 (some 0),.int .i64 0],.agg [.int .i64 1,.bool false,.str [],.str [],.slice none 0 (some 0),.slice none 0 (some 0),.int .i64 0]],.bool false⟩,
 ⟨127,[.agg [.int .i64 3,.bool false,.str [],.str [97],.slice none 0 (some 0),.slice none 0 (some 0),.int .i64 0],.agg [.int .i64 2,.bool false,.str [48],.str [],.slice none 0 (some 0),.slice none 0 (some 0),.int .i64 0]],.bool false⟩,
 ⟨127,[.agg [.int .i64 3,.bool false,.str [],.str [97],.slice none 0 (some 0),.slice none 0 (some 0),.int .i64 0],.agg [.int .i64 2,.bool false,.str [49],.str [],.slice none 0 (some 0),.slice none 0 (some 0),.int .i64 0]],.bool false⟩,
 ⟨127,[.agg [.int .i64 3,.bool false,.str [],.str [97],.slice none 0 (some 0),.slice none 0 (some 0),.int .i64 0],.agg [.int .i64 2,.bool false,.str [45,53],.str [],.slice none 0 (some 0),.slice none 0 (some 0),.int .i64 0]],.bool false⟩,
 ⟨127,[.agg [.int .i64 3,.bool false,.str [],.str [97],.slice none 0 (some 0),.slice none 0 (some 0),.int .i64 0],.agg [.int .i64 2,.bool false,.str [49,56,52,52,54,55,52,52,48,55,51,55,48,57,53,53,49,54,49,54],.str [],.slice none 0 (some 0),.slice none 0 (some 0),.int .i64 0]],.bool false⟩]
def Sj:List Row:=[
 ⟨127,[.agg [.int .i64 3,.bool false,.str [],.str [97],.slice none 0 (some 0),.slice none 0 (some 0),.int .i64 0],.agg [.int .i64 3,.bool false,.str [],.str [97],.slice none 0 (some 0),.slice none 0 (some 0),.int .i64 0]],.bool true⟩,
 ⟨127,[.agg [.int .i64 3,.bool false,.str [],.str [97],.slice none 0 (some 0),.slice none 0 (some 0),.int .i64 0],.agg [.int .i64 3,.bool false,.str [],.str [98],.slice none 0 (some 0),.slice none 0 (some 0),.int .i64 0]],.bool false⟩,
 ⟨127,[.agg [.int .i64 3,.bool false,.str [],.str [97],.slice none 0 (some 0),.slice none 0 (some 0),.int .i64 0],.agg [.int .i64 3,.bool false,.str [],.str [],.slice none 0 (some 0),.slice none 0 (some 0),.int .i64 0]],.bool false⟩,
 ⟨127,[.agg [.int .i64 3,.bool false,.str [],.str [97],.slice none 0 (some 0),.slice none 0 (some 0),.int .i64 0],.agg [.int .i64 4,.bool false,.str [],.str [],.slice none 0 (some 0),.slice none 0 (some 0),.int .i64 0]],.bool false⟩,
 ⟨127,[.agg [.int .i64 3,.bool false,.str [],.str [98],.slice none 0 (some 0),.slice none 0 (some 0),.int .i64 0],.agg [.int .i64 0,.bool false,.str [],.str [],.slice none 0 (some 0),.slice none 0 (some 0),.int .i64 0]],.bool false⟩,
 ⟨127,[.agg [.int .i64 3,.bool false,.str [],.str [98],.slice none 0 (some 0),.slice none 0 (some 0),.int .i64 0],.agg [.int .i64 1,.bool true,.str [],.str [],.slice none 0 (some 0),.slice none 0 (some 0),.int .i64 0]],.bool false⟩,
 ⟨127,[.agg [.int .i64 3,.bool false,.str [],.str [98],.slice none 0 (some 0),.slice none 0 (some 0),.int .i64 0],.agg [.int .i64 1,.bool false,.str [],.str [],.slice none 0 (some 0),.slice none 0 (some 0),.int .i64 0]],.bool false⟩,
 ⟨127,[.agg [.int .i64 3,.bool false,.str [],.str [98],.slice none 0 (some 0),.slice none 0 (some 0),.int .i64 0],.agg [.int .i64 2,.bool false,.str [48],.str [],.slice none 0 (some 0),.slice none 0 (some 0),.int .i64 0]],.bool false⟩,
 ⟨127,[.agg [.int .i64 3,.bool false,.str [],.str [98],.slice none 0 (some 0),.slice none 0 (some 0),.int .i64 0],.agg [.int .i64 2,.bool false,.str [49],.str [],.slice none 0 (some 0),.slice none 0 (some 0),.int .i64 0]],.bool false⟩,
 ⟨127,[.agg [.int .i64 3,.bool false,.str [],.str [98],.slice none 0 (some 0),.slice none 0 (some 0),.int .i64 0],.agg [.int .i64 2,.bool false,.str [45,53],.str [],.slice none 0 (some 0),.slice none 0 (some 0),.int .i64 0]],.bool false⟩,
 ⟨127,[.agg [.int .i64 3,.bool false,.str [],.str [98],.slice none 0 (some 0),.slice none 0 (some 0),.int .i64 0],.agg [.int .i64 2,.bool false,.str [49,56,52,52,54,55,52,52,48,55,51,55,48,57,53,53,49,54,49,54],.str [],.slice none 0 (some 0),.slice none 0 (some 0),.int .i64 0]],.bool false⟩,
 ⟨127,[.agg [.int .i64 3,.bool false,.str [],.str [98],.slice none 0 (some 0),.slice none 0 (some 0),.int .i64 0],.agg [.int .i64 3,.bool false,.str [],.str [97],.slice none 0 (some 0),.slice none 0 (some 0),.int .i64 0]],.bool false⟩,
 ⟨127,[.agg [.int .i64 3,.bool false,.str [],.str [98],.slice none 0 (some 0),.slice none 0 (some 0),.int .i64 0],.agg [.int .i64 3,.bool false,.str [],.str [98],.slice none 0 (some 0),.slice none 0 (some 0),.int .i64 0]],.bool true⟩,
 ⟨127,[.agg [.int .i64 3,.bool false,.str [],.str [98],.slice none 0 (some 0),.slice none 0 (some 0),.int .i64 0],.agg [.int .i64 3,.bool false,.str [],.str [],.slice none 0 (some 0),.slice none 0 (some 0),.int .i64 0]],.bool false⟩]
def N7:List Row:=[
 ⟨127,[.agg [.int .i64 3,.bool false,.str [],.str [98],.slice none 0 (some 0),.slice none 0 (some 0),.int .i64 0],.agg [.int .i64 4,.bool false,.str [],.str [],.slice none 0 (some 0),.slice none 0 (some 0),.int .i64 0]],.bool false⟩,
 ⟨127,[.agg [.int .i64 3,.bool false,.str [],.str [],.slice none 0 (some 0),.slice none 0 (some 0),.int .i64 0],.agg [.int .i64 0,.bool false,.str [],.str [],.slice none 0 (some 0),.slice none 0 (some 0),.int .i64 0]],.bool false⟩,
 ⟨127,[.agg [.int .i64 3,.bool false,.str [],.str [],.slice none 0 (some 0),.slice none 0 (some 0),.int .i64 0],.agg [.int .i64 1,.bool true,.str [],.str [],.slice none 0 (some 0),.slice none 0 (some 0),.int .i64 0]],.bool false⟩,
 ⟨127,[.agg [.int .i64 3,.bool false,.str [],.str [],.slice none 0 (some 0),.slice none 0 (some 0),.int .i64 0],.agg [.int .i64 1,.bool false,.str [],.str [],.slice none 0 (some 0),.slice none 0 (some 0),.int .i64 0]],.bool false⟩,
 ⟨127,[.agg [.int .i64 3,.bool false,.str [],.str [],.slice none 0 (some 0),.slice none 0 (some 0),.int .i64 0],.agg [.int .i64 2,.bool false,.str [48],.str [],.slice none 0 (some 0),.slice none 0 (some 0),.int .i64 0]],.bool false⟩,
 ⟨127,[.agg [.int .i64 3,.bool false,.str [],.str [],.slice none 0 (some 0),.slice none 0 (some 0),.int .i64 0],.agg [.int .i64 2,.bool false,.str [49],.str [],.slice none 0 (some 0),.slice none 0 (some 0),.int .i64 0]],.bool false⟩,
 ⟨127,[.agg [.int .i64 3,.bool false,.str [],.str [],.slice none 0 (some 0),.slice none 0 (some 0),.int .i64 0],.agg [.int .i64 2,.bool false,.str [45,53],.str [],.slice none 0 (some 0),.slice none 0 (some 0),.int .i64 0]],.bool false⟩,
 ⟨127,[.agg [.int .i64 3,.bool false,.str [],.str [],.slice none 0 (some 0),.slice none 0 (some 0),.int .i64 0],.agg [.int .i64 2,.bool false,.str [49,56,52,52,54,55,52,52,48,55,51,55,48,57,53,53,49,54,49,54],.str [],.slice none 0 (some 0),.slice none 0 (some 0),.int .i64 0]],.bool false⟩,
 ⟨127,[.agg [.int .i64 3,.bool false,.str [],.str [],.slice none 0 (some 0),.slice none 0 (some 0),.int .i64 0],.agg [.int .i64 3,.bool false,.str [],.str [97],.slice none 0 (some 0),.slice none 0 (some 0),.int .i64 0]],.bool false⟩,
 ⟨127,[.agg [.int .i64 3,.bool false,.str [],.str [],.slice none 0 (some 0),.slice none 0 (some 0),.int .i64 0],.agg [.int .i64 3,.bool false,.str [],.str [98],.slice none 0 (some 0),.slice none 0 (some 0),.int .i64 0]],.bool false⟩,
 ⟨127,[.agg [.int .i64 3,.bool false,.str [],.str [],.slice none 0 (some 0),.slice none 0 (some 0),.int .i64 0],.agg [.int .i64 3,.bool false,.str [],.str [],.slice none 0 (some 0),.slice none 0 (some 0),.int .i64 0]],.bool true⟩,
 ⟨127,[.agg [.int .i64 3,.bool false,.str [],.str [],.slice none 0 (some 0),.slice none 0 (some 0),.int .i64 0],.agg [.int .i64 4,.bool false,.str [],.str [],.slice none 0 (some 0),.slice none 0 (some 0),.int .i64 0]],.bool false⟩,
 ⟨127,[.agg [.int .i64 4,.bool false,.str [],.str [],.slice none 0 (some 0),.slice none 0 (some 0),.int .i64 0],.agg [.int .i64 0,.bool false,.str [],.str [],.slice none 0 (some 0),.slice none 0 (some 0),.int .i64 0]],.bool false⟩,
 ⟨127,[.agg [.int .i64 4,.bool false,.str [],.str [],.slice none 0 (some 0),.slice none 0 (some 0),.int .i64 0],.agg [.int .i64 1,.bool true,.str [],.str [],.slice none 0 (some 0),.slice none 0 (some 0),.int .i64 0]],.bool false⟩]
def N8:List Row:=[
 ⟨127,[.agg [.int .i64 4,.bool false,.str [],.str [],.slice none 0 (some 0),.slice none 0 (some 0),.int .i64 0],.agg [.int .i64 1,.bool false,.str [],.str [],.slice none 0 (some 0),.slice none 0 (some 0),.int .i64 0]],.bool false⟩,
 ⟨127,[.agg [.int .i64 4,.bool false,.str [],.str [],.slice none 0 (some 0),.slice none 0 (some 0),.int .i64 0],.agg [.int .i64 2,.bool false,.str [48],.str [],.slice none 0 (some 0),.slice none 0 (some 0),.int .i64 0]],.bool false⟩,
 ⟨127,[.agg [.int .i64 4,.bool false,.str [],.str [],.slice none 0 (some 0),.slice none 0 (some 0),.int .i64 0],.agg [.int .i64 2,.bool false,.str [49],.str [],.slice none 0 (some 0),.slice none 0 (some 0),.int .i64 0]],.bool false⟩,
 ⟨127,[.agg [.int .i64 4,.bool false,.str [],.str [],.slice none 0 (some 0),.slice none 0 (some 0),.int .i64 0],.agg [.int .i64 2,.bool false,.str [45,53],.str [],.slice none 0 (some 0),.slice none 0 (some 0),.int .i64 0]],.bool false⟩,
 ⟨127,[.agg [.int .i64 4,.bool false,.str [],.str [],.slice none 0 (some 0),.slice none 0 (some 0),.int .i64 0],.agg [.int .i64 2,.bool false,.str [49,56,52,52,54,55,52,52,48,55,51,55,48,57,53,53,49,54,49,54],.str [],.slice none 0 (some 0),.slice none 0 (some 0),.int .i64 0]],.bool false⟩,
 ⟨127,[.agg [.int .i64 4,.bool false,.str [],.str [],.slice none 0 (some 0),.slice none 0 (some 0),.int .i64 0],.agg [.int .i64 3,.bool false,.str [],.str [97],.slice none 0 (some 0),.slice none 0 (some 0),.int .i64 0]],.bool false⟩,
 ⟨127,[.agg [.int .i64 4,.bool false,.str [],.str [],.slice none 0 (some 0),.slice none 0 (some 0),.int .i64 0],.agg [.int .i64 3,.bool false,.str [],.str [98],.slice none 0 (some 0),.slice none 0 (some 0),.int .i64 0]],.bool false⟩,
 ⟨127,[.agg [.int .i64 4,.bool false,.str [],.str [],.slice none 0 (some 0),.slice none 0 (some 0),.int .i64 0],.agg [.int .i64 3,.bool false,.str [],.str [],.slice none 0 (some 0),.slice none 0 (some 0),.int .i64 0]],.bool false⟩,
 ⟨127,[.agg [.int .i64 4,.bool false,.str [],.str [],.slice none 0 (some 0),.slice none 0 (some 0),.int .i64 0],.agg [.int .i64 4,.bool false,.str [],.str [],.slice none 0 (some 0),.slice none 0 (some 0),.int .i64 0]],.bool true⟩,
 ⟨109,[.agg [.int .i64 0,.bool false,.str [],.str [],.slice none 0 (some 0),.slice none 0 (some 0),.int .i64 0]],.bool true⟩,
 ⟨109,[.agg [.int .i64 1,.bool true,.str [],.str [],.slice none 0 (some 0),.slice none 0 (some 0),.int .i64 0]],.bool true⟩,
 ⟨109,[.agg [.int .i64 1,.bool false,.str [],.str [],.slice none 0 (some 0),.slice none 0 (some 0),.int .i64 0]],.bool true⟩,
 ⟨109,[.agg [.int .i64 2,.bool false,.str [48],.str [],.slice none 0 (some 0),.slice none 0 (some 0),.int .i64 0]],.bool true⟩,
 ⟨109,[.agg [.int .i64 2,.bool false,.str [49],.str [],.slice none 0 (some 0),.slice none 0 (some 0),.int .i64 0]],.bool true⟩]
def N9:List Row:=[
 ⟨109,[.agg [.int .i64 2,.bool false,.str [45,53],.str [],.slice none 0 (some 0),.slice none 0 (some 0),.int .i64 0]],.bool true⟩,
 ⟨109,[.agg [.int .i64 2,.bool false,.str [49,56,52,52,54,55,52,52,48,55,51,55,48,57,53,53,49,54,49,54],.str [],.slice none 0 (some 0),.slice none 0 (some 0),.int .i64 0]],.bool true⟩,
 ⟨109,[.agg [.int .i64 3,.bool false,.str [],.str [97],.slice none 0 (some 0),.slice none 0 (some 0),.int .i64 0]],.bool true⟩,
 ⟨109,[.agg [.int .i64 3,.bool false,.str [],.str [98],.slice none 0 (some 0),.slice none 0 (some 0),.int .i64 0]],.bool true⟩,
 ⟨109,[.agg [.int .i64 3,.bool false,.str [],.str [],.slice none 0 (some 0),.slice none 0 (some 0),.int .i64 0]],.bool true⟩,
 ⟨109,[.agg [.int .i64 4,.bool false,.str [],.str [],.slice none 0 (some 0),.slice none 0 (some 0),.int .i64 0]],.bool true⟩,
 ⟨7,[],.bool true⟩]
def DW (r:Row):Bool:=Em r.args && GF r.res && SR r.res ((Cs ZY 100000).call r.f r.args (PX 1 A6))
theorem PH:SZ.all DW=true:=by kernel_rfl
theorem PI:Sa.all DW=true:=by kernel_rfl
theorem PJ:Sb.all DW=true:=by kernel_rfl
theorem PK:Sc.all DW=true:=by kernel_rfl
theorem PL:Sd.all DW=true:=by kernel_rfl
theorem PM:Se.all DW=true:=by kernel_rfl
theorem PN:Sf.all DW=true:=by kernel_rfl
theorem PO:Sg.all DW=true:=by kernel_rfl
theorem PP:Si.all DW=true:=by kernel_rfl
theorem PQ:Sj.all DW=true:=by kernel_rfl
theorem Mz:N7.all DW=true:=by kernel_rfl
theorem M0:N8.all DW=true:=by kernel_rfl
theorem M1:N9.all DW=true:=by kernel_rfl
def Cx:List Row:=SZ++Sa++Sb++Sc++Sd++Se++Sf++Sg++Si++Sj++N7++N8++N9
theorem Sk:∀r∈Cx,Em r.args=true∧GF r.res=true∧SR r.res ((Cs ZY 100000).call r.f r.args (PX 1 A6))=true:=by
 have h:Cx.all DW=true:=by
  unfold Cx
  simp only[List.all_append,PH,PI,PJ,PK,PL,PM,PN,PO,PP,PQ,Mz,M0,M1,Bool.and_self]
 intro r hr
 have:=List.all_eq_true.1 h r hr
 unfold DW at this
 simp only[Bool.and_eq_true]at this
 exact⟨this.1.1,this.1.2,this.2⟩
theorem N2:Tryz.prog.follows .mixedOrders=true:=by kernel_rfl
theorem Lc:IX Tryz.prog=true:=by kernel_rfl
def Cj:Ph:=KZ 1 A6 [44,30,45,127,109,7] Cx
theorem Mp:EB Tryz.prog Cj:=O4 N2 (IY Lc) rfl N0 (by kernel_rfl) Sk
def Gs:Ph:=fun f xs s=>match Cj f xs s with
 | some p=>some p
 | none=>O0 f xs s
theorem Tk:EB Tryz.prog Gs:=by
 intro ρ s w f xs v s1 as' hc hi hf ha
 unfold Gs at hc
 cases h:Cj f xs s with
 | some p=>rw[h]at hc;injection hc with hc;subst hc;exact Mp ρ s w f xs v s1 as' h hi hf ha
 | none=>rw[h]at hc;exact N0 ρ s w f xs v s1 as' hc hi hf ha
def ZZ:Be:=⟨Tryz.prog,Gs⟩
end
end Go.Proofs.YtickdehehcmfbaaGreatDoor.Am
set_option linter.unusedVariables false
set_option linter.unusedSimpArgs false
namespace Go.Proofs.YtickdehehcmfbaaGreatDoor.Am
open Go
noncomputable section
def Iq:AV→Option Nat
 | .slice (some (i,_)) _ _=>some i
 | _=>none
section
variable{α:Type}
theorem AI.setF_succ(v:Option α)(f:Nat)(t:AI α)(k:Nat):AI.setF v (f+1) t (k+1)=if k % 2=0 then .node t.val (AI.setF v f t.left (k / 2)) t.right else .node t.val t.left (AI.setF v f t.right (k / 2)):=by
 by_cases h:k % 2=0
 ·have hb:Nat.beq (k % 2) 0=true:=by rw[h];rfl
  simp only[AI.setF,hb,cond_true,AI.nodeL_eq,AI.nodeR_eq]
  rw[if_pos h]
 ·have hb:Nat.beq (k % 2) 0=false:=AI.beq_no h
  simp only[AI.setF,hb,cond_false,AI.nodeL_eq,AI.nodeR_eq]
  rw[if_neg h]
theorem AI.setF_fuel   (v : Option α) : ∀ (f g : Nat) (t : AI   α) (k : Nat), k < f → k < g → AI.setF   v f t k = AI.setF   v g t k := by
  intro f
  induction f with
  | zero=>intro g t k h;omega
  | succ f ih =>
    intro g t k h1 h2
    cases g with
    | zero=>omega
    | succ g =>
      cases k with
      | zero=>rfl
      | succ k =>
        rw[AI.setF_succ,AI.setF_succ,ih g t.left (k / 2) (by omega) (by omega),ih g t.right (k / 2) (by omega) (by omega)]
theorem AI.setF_same(v w:Option α):∀ (f:Nat)(t:AI α)(k:Nat),k<f→AI.setF w f (AI.setF v f t k) k=AI.setF w f t k:=by
 intro f
 induction f with
 | zero=>intro t k h;omega
 | succ f ih =>
  intro t k h
  cases k with
  | zero=>rfl
  | succ k =>
   rw[AI.setF_succ,AI.setF_succ,AI.setF_succ]
   by_cases hk:k % 2=0
   ·simp only[hk,if_true,AI.val,AI.left,AI.right];rw[ih _ _ (by omega)]
   ·simp only[hk,if_false,AI.val,AI.left,AI.right];rw[ih _ _ (by omega)]
theorem AI.setF_comm   (v w : Option α) : ∀ (f : Nat) (t : AI   α) (k j : Nat), k < f → j < f → k ≠ j → AI.setF   w f (AI.setF   v f t k) j = AI.setF   v f (AI.setF   w f t j) k := by
  intro f
  induction f with
  | zero=>intro t k j h;omega
  | succ f ih =>
    intro t k j h1 h2 hne
    cases k with
    | zero =>
      cases j with
      | zero=>omega
      | succ j =>
        rw[AI.setF_succ,AI.setF_succ]
        by_cases hj:j % 2=0
        · simp only[hj,if_true,AI.setF,AI.val,AI.left,AI.right]
        · simp only[hj,if_false,AI.setF,AI.val,AI.left,AI.right]
    | succ k =>
      cases j with
      | zero =>
        rw[AI.setF_succ,AI.setF_succ]
        by_cases hk:k % 2=0
        · simp only[hk,if_true,AI.setF,AI.val,AI.left,AI.right]
        · simp only[hk,if_false,AI.setF,AI.val,AI.left,AI.right]
      | succ j =>
        simp only[AI.setF_succ]
        by_cases hk:k % 2=0<;>by_cases hj:j % 2=0
        · simp only[hk,hj,if_true,AI.val,AI.left,AI.right];rw[ih _ _ _ (by omega) (by omega) (by omega)]
        · simp only[hk,hj,if_true,if_false,AI.val,AI.left,AI.right]
        · simp only[hk,hj,if_true,if_false,AI.val,AI.left,AI.right]
        · simp only[hk,hj,if_false,AI.val,AI.left,AI.right];rw[ih _ _ _ (by omega) (by omega) (by omega)]
theorem AI.set_same(t:AI α)(k:Nat)(v w:α):(t.set k v).set k w=t.set k w:=AI.setF_same _ _ _ _ _ (by omega)
theorem AI.set_comm(t:AI α){k j:Nat}(h:k≠j)(v w:α):(t.set k v).set j w=(t.set j w).set k v:=by
 unfold AI.set AI.put
 rw[AI.setF_fuel _ (k+1) (k+j+1) t k (by omega) (by omega),AI.setF_fuel _ (j+1) (k+j+1) _ j (by omega) (by omega),AI.setF_fuel _ (j+1) (k+j+1) t j (by omega) (by omega),AI.setF_fuel _ (k+1) (k+j+1) _ k (by omega) (by omega)]
 exact AI.setF_comm _ _ _ _ _ _ (by omega) (by omega) h
theorem AI.fill_append(l m:List α):∀ (t:AI α)(k:Nat),t.fill k (l++m)=(t.fill k l).fill (k+l.length) m:=by
 induction l with
 | nil=>intro t k;rfl
 | cons a l ih=>intro t k;simp only[ap,AI.fill,ih,ao];rw[show k+1+l.length=k+(l.length+1)from by omega]
theorem AI.fill_set_below(l:List α):∀ (t:AI α)(k j:Nat)(v:α),j<k→(t.fill k l).set j v=(t.set j v).fill k l:=by
 induction l with
 | nil=>intro t k j v _;rfl
 | cons a l ih =>
  intro t k j v h
  simp only[AI.fill]
  rw[ih _ _ _ _ (by omega),AI.set_comm t (by omega)]
theorem AI.fill_set(l:List α):∀ (t:AI α)(k i:Nat)(v:α),i<l.length→(t.fill k l).set (k+i) v=t.fill k (l.set i v):=by
  induction l with
  | nil=>intro t k i v h;simp at h
  | cons a l ih =>
    intro t k i v h
    cases i with
    | zero =>
      simp only[AI.fill,br,aw]
      rw[AI.fill_set_below _ _ _ _ _ (by omega),AI.set_same]
    | succ i =>
      simp only[AI.fill,ay]
      rw[show k+(i+1)=k+1+i from by omega]
      exact ih _ _ _ _ (by simpa using h)
end
def O8(l:List AV):AI AV:=AI.fill .leaf 0 l
theorem N1(l:List AV)(k:Nat):(O8 l).get k=l[k]? := by
 unfold O8
 rw[AI.get_fill]
 by_cases h:k<l.length
 ·rw[if_pos ⟨bL _,by omega⟩];rfl
 ·rw[if_neg (by omega),bJ (by omega)];rfl
def ET(cs:List AV)(off:Nat)(vs:List AV):List AV:=match vs with
 | []=>cs
 | v::vs=>ET (cs.set off v) (off+1) vs
theorem Fc:∀ (vs cs:List AV)(off:Nat),(ET cs off vs).length=cs.length
 | [],_,_=>rfl
 | v::vs,cs,off=>by unfold ET;rw[Fc];simp
theorem Le:∀ (vs cs:List AV)(off:Nat),off+vs.length≤cs.length→(O8 cs).fill off vs=O8 (ET cs off vs)
 | [],_,_,_=>rfl
 | v::vs,cs,off,h=>by
  simp only[AI.fill,ET]
  have e:(O8 cs).set off v=O8 (cs.set off v):=by
   unfold O8
   have:=AI.fill_set cs .leaf 0 off v (by simp at h;omega)
   rwa[ak]at this
  rw[e]
  exact Le vs _ _ (by simp at h ⊢;omega)
def R(e sz:Nat)(sp:Bool)(cs:List AV):Ac:=.row { elem:=e,sz,n:=cs.length,c:=O8 cs,spare:=sp,mode:=.own,par:=none,bytes:=true }
@[irreducible] def nid (b k:Nat):Nat:=b+k
theorem AF(b k:Nat):nid b k=b+k:=by unfold nid;rfl
theorem Ew(b:Nat):nid b 0=b:=by rw[AF];rfl
def ext(s:AD)(os:List Ac):AD:={ next:=nid s.next os.length,heap:=s.heap.fill s.next os }
theorem Aa(s:AD):ext s []=s:=by
 unfold ext
 rw[au,Ew];rfl
theorem Wm(s:AD)(os:List Ac):(ext s os).next=nid s.next os.length:=rfl
theorem Wp(s:AD)(i:Nat)(o:Ac):(setObj s i o).next=s.next:=rfl
theorem Wl(s:AD)(os:List Ac)(o:Ac):newObj (ext s os) o=ext s (os++[o]):=by
 unfold newObj ext
 simp only[AF,bV,ao,au,AI.fill_append,AI.fill]
 congr 1
theorem Wn{s:AD}{os:List Ac}{b k:Nat}(o:Ac)(hb:s.next=b)(hk:k<os.length):setObj (ext s os) (nid b k) o=ext s (os.set k o):=by
 subst hb
 unfold setObj ext
 simp only[AF,List.length_set]
 rw[AI.fill_set _ _ _ _ _ hk]
theorem Wg{s:AD}{os:List Ac}{b k:Nat}(hb:s.next=b)(hk:k<os.length):(ext s os).heap.get (nid b k)=os[k]? := by
 subst hb
 show(s.heap.fill s.next os).get _=_
 rw[AI.get_fill,AF,if_pos (by omega)]
 congr 1
 omega
theorem Wh{s:AD}{os:List Ac}{i:Nat}(hi:i<s.next):(ext s os).heap.get i=s.heap.get i:=by
 show(s.heap.fill s.next os).get _=_
 rw[AI.get_fill,if_neg (by omega)]
theorem Wq(s:AD)(i:Nat)(o:Ac):(setObj s i o).heap.get i=some o:=by
 show(s.heap.set i o).get i=_
 rw[AI.get_set,if_pos rfl]
theorem Wr{s:AD}{i j:Nat}(o:Ac)(h:j≠i):(setObj s i o).heap.get j=s.heap.get j:=by
 show(s.heap.set i o).get j=_
 rw[AI.get_set,if_neg h]
def SW:Option Ac→Option CK
 | some (.row r)=>some r
 | _=>none
def Cv(o:Option Ac)(off:Nat):Option AV:=(SW o).bind fun r=>AH (Nat.blt off r.n) (r.c.get off)
def BB(o:Option Ac)(off n:Nat):Option (List AV):=(SW o).bind fun r=>AH (Nat.ble (off+n) r.n) (r.c.take off n)
def X9(kt:TypeId):Option Ac→Option (List (AV×AV))
 | some (.map kt' es)=>AH (Nat.beq kt' kt) (some es)
 | _=>none
theorem N6(s:AD)(i:Nat):rowAt s i=SW (s.heap.get i):=rfl
theorem Ny(s:AD)(i off:Nat):Cm s i off=Cv (s.heap.get i) off:=rfl
theorem FE(s:AD)(i off n:Nat):BW s i off n=BB (s.heap.get i) off n:=rfl
theorem EP(s:AD)(kt i:Nat):FX s kt i=X9 kt (s.heap.get i):=rfl
theorem Wi(e sz:Nat)(sp:Bool)(cs:List AV)(off:Nat):Cv (some (R e sz sp cs)) off=cs[off]? := by
 show AH (Nat.blt off cs.length) ((O8 cs).get off)=_
 rw[N1]
 by_cases h:off<cs.length
 ·have:Nat.blt off cs.length=true:=by rw[bN];exact h
  rw[this];rfl
 ·have:Nat.blt off cs.length=false:=by
   cases hb:Nat.blt off cs.length with
   | false=>rfl
   | true=>rw[bN]at hb;exact absurd hb h
  rw[this,bJ (by omega)];rfl
theorem L5:∀ (n:Nat)(cs:List AV)(off:Nat),off+n≤cs.length→(O8 cs).take off n=some ((cs.drop off).take n)
 | 0,cs,off,_=>by simp[AI.take]
 | n+1,cs,off,h=>by
  have hg:cs[off]? = some cs[off]:=bD (by omega)
  simp only[AI.take,N1,hg,L5 n cs (off+1) (by omega)]
  rw[show cs.drop off=cs[off]::cs.drop (off+1)from(List.drop_eq_getElem_cons (by omega))]
  rfl
theorem Wj{e sz:Nat}{sp:Bool}{cs:List AV}{off n:Nat}(h:off+n≤cs.length):BB (some (R e sz sp cs)) off n=some ((cs.drop off).take n):=by
 show AH (Nat.ble (off+n) cs.length) ((O8 cs).take off n)=_
 have:Nat.ble (off+n) cs.length=true:=by rw[bF];exact h
 rw[this,L5 n cs off h];rfl
theorem DQ(kt:TypeId)(es:List (AV×AV)):X9 kt (some (.map kt es))=some es:=by simp[X9,AH]
theorem Wd(s:AD)(i off:Nat):Bq s i off []=some s:=rfl
end
end Go.Proofs.YtickdehehcmfbaaGreatDoor.Am
set_option linter.unusedVariables false
set_option linter.unusedSimpArgs false
namespace Go.Proofs.YtickdehehcmfbaaGreatDoor.Am
open Go Go.Proofs
noncomputable section
inductive Tm where
 | var (id:Int)
 | bnd (i:Int)
 | con (n:Nat)
 | sel (d k:Tm)
 | upd (d k a:Tm)
 deriving DecidableEq
namespace Tm
def kids:Tm→List Tm
 | sel d k=>[d,k]
 | upd d k a=>[d,k,a]
 | _=>[]
def kind:Tm→Int
 | var _=>0
 | bnd _=>1
 | con _=>2
 | sel ..=>3
 | upd ..=>4
def id:Tm→Int
 | var i=>i
 | bnd i=>i
 | _=>0
def ktext:Tm→List Nat
 | con n=>(Ej.getD n ([],[])).1
 | _=>[]
def nullC:List AV:=[.int .i64 0,.bool false,.str [],.str [],.slice none 0 (some 0),.slice none 0 (some 0),.int .i64 0]
def cells:Tm→List AV
 | con n=>(Ej.getD n ([],nullC)).2
 | _=>nullC
def ok:Tm→Prop
 | var i=>i64 i
 | bnd i=>0≤i∧i64 i
 | con n=>n<13
 | _=>True
def sz:Tm→Nat
 | sel d k=>min (min (1+d.sz) 4097+k.sz) 4097
 | upd d k a=>min (min (min (1+d.sz) 4097+k.sz) 4097+a.sz) 4097
 | _=>1
def has(x:Int):Tm→Bool
 | var i=>decide (i=x)
 | sel d k=>d.has x || k.has x
 | upd d k a=>d.has x || k.has x || a.has x
 | _=>false
theorem sz_pos:∀t:Tm,1≤t.sz∧t.sz≤4097
 | var _ | bnd _ | con _=>by simp[sz]
 | sel d k=>by have:=sz_pos d;have:=sz_pos k;simp only[sz];omega
 | upd d k a=>by have:=sz_pos d;have:=sz_pos k;have:=sz_pos a;simp only[sz];omega
end Tm
structure I0(S:List Tm):Prop where
 nd:S.Nodup
 cl:∀ (i:Nat) (t:Tm),S[i]? = some t→∀k∈t.kids,∃j:Nat,j<i∧S[j]? = some k
 ok:∀t∈S,t.ok
def ix(S:List Tm)(t:Tm):Nat:=S.idxOf t
theorem Cr{S:List Tm}{t:Tm}(h:t∈S):S[ix S t]? = some t:=by
 have hl:=List.idxOf_lt_length_of_mem h
 rw[ix,bD hl,List.getElem_idxOf hl]
theorem Eu{S:List Tm}{t:Tm}(h:t∈S):ix S t<S.length:=List.idxOf_lt_length_of_mem h
theorem Gn{S:List Tm}{t u:Tm}(h:t∈S)(k:u∈S)(e:ix S t=ix S u):t=u:=by
 have h1:=Cr h
 rw[e,Cr k]at h1
 injection h1 with h1
 exact h1.symm
theorem WK{S:List Tm}(hn:S.Nodup){i:Nat}{t:Tm}(h:S[i]? = some t):ix S t=i:=by
 have hm:=bO h
 have h1:=Cr hm
 have hi:i<S.length:=by
  rcases bE i S.length with h' | h'
  ·exact h'
  ·rw[bJ h']at h;cases h
 have hl:=Eu hm
 rw[bD hi]at h
 rw[bD hl]at h1
 injection h with h
 injection h1 with h1
 exact(List.getElem_inj hn).1 (h1.trans h.symm)
theorem C8{S:List Tm}{t:Tm}(u:List Tm)(h:t∈S):ix (S++u) t=ix S t:=by
 unfold ix
 rw[List.idxOf_append,if_pos h]
theorem R5{S:List Tm}{u:Tm}(h:u ∉ S):ix (S++[u]) u=S.length:=by
 unfold ix
 rw[List.idxOf_append,if_neg h]
 simp
theorem I0.kid{S:List Tm}(h:I0 S){t k:Tm}(ht:t∈S)(hk:k∈t.kids):k∈S∧ix S k<ix S t:=by
 obtain⟨j,h1,h2⟩:=h.cl _ _ (Cr ht) k hk
 exact⟨bO h2,by rw[WK h.nd h2];exact h1⟩
theorem I0.push  {S : List Tm} (h : I0  S) {u : Tm} (hu : u ∉ S) (hk : ∀ k ∈ u.kids, k ∈ S) (ho : u.ok) : I0  (S ++ [u]) where
  nd:=by
    rw[List.nodup_append]
    refine⟨h.nd,by simp,fun a ha b hb e=>?_⟩
    simp at hb
    subst hb;subst e
    exact hu ha
  cl := by
    intro i t hi k hkt
    rcases bE i S.length with hl | hl
    · rw[bP hl]at hi
      obtain⟨j,h1,h2⟩:=h.cl i t hi k hkt
      exact⟨j,h1,by rw[bP (by omega)];exact h2⟩
    · rw[bS hl]at hi
      have:i - S.length=0:=by
        rcases bc (i - S.length)with e | e
        · exact e
        · rw[bJ (by simp;omega)]at hi;cases hi
      rw[this]at hi
      simp at hi
      subst hi
      have hm:=hk k hkt
      exact⟨ix S k,by have:=Eu hm;omega,by rw[bP (Eu hm)];exact Cr hm⟩
  ok:=fun t ht=>by
    rcases List.mem_append.1 ht with h' | h'
    · exact h.ok t h'
    · simp at h';subst h';exact ho
def part(S:List Tm)(t:Tm)(k:Nat):Int:=match t.kids[k]? with
 | some u=>(ix S u:Int)
 | none=>0
def BD(S:List Tm)(t:Tm):List AV:=[iv t.kind,iv t.id,iv (part S t 0),iv (part S t 1),iv (part S t 2),.str t.ktext]
theorem Ez{S:List Tm}{t:Tm}(u:List Tm)(h:∀k∈t.kids,k∈S)(k:Nat):part (S++u) t k=part S t k:=by
 unfold part
 cases e:t.kids[k]? with
 | none=>rfl
 | some x=>show(ix (S++u) x:Int)=ix S x;rw[C8 u (h x (bO e))]
theorem Ck{S:List Tm}{t:Tm}(u:List Tm)(h:∀k∈t.kids,k∈S):BD (S++u) t=BD S t:=by
 unfold BD
 rw[Ez u h,Ez u h,Ez u h]
theorem RA:∀a,a<13→∀b,b<13→(Ej.getD a ([],[])).1=(Ej.getD b ([],[])).1→a=b:=by decide
theorem R6{S:List Tm}{t u:Tm}(ht:∀k∈t.kids,k∈S)(hu:∀k∈u.kids,k∈S)(ot:t.ok)(ou:u.ok)(h:BD S t=BD S u):t=u:=by
  unfold BD at h
  simp only[List.cons.injEq,and_true,AV.int.injEq,true_and,AV.str.injEq]at h
  obtain⟨h1,h2,h3,h4,h5,h6⟩:=h
  cases t<;>cases u<;>first | (simp[Tm.kind]at h1;done) | skip
  · have e:_=_:=h2
    simp only[Tm.id]at e
    rw[e]
  · have e:_=_:=h2
    simp only[Tm.id]at e
    rw[e]
  · rename_i a b
    rw[RA a ot b ou h6]
  · rename_i a b c d
    have e1:(ix S a:Int)=ix S c:=h3
    have e2:(ix S b:Int)=ix S d:=h4
    rw[Gn (ht a (by simp[Tm.kids])) (hu c (by simp[Tm.kids])) (by omega),Gn (ht b (by simp[Tm.kids])) (hu d (by simp[Tm.kids])) (by omega)]
  · rename_i a b x c d y
    have e1:(ix S a:Int)=ix S c:=h3
    have e2:(ix S b:Int)=ix S d:=h4
    have e3:(ix S x:Int)=ix S y:=h5
    rw[Gn (ht a (by simp[Tm.kids])) (hu c (by simp[Tm.kids])) (by omega),Gn (ht b (by simp[Tm.kids])) (hu d (by simp[Tm.kids])) (by omega),Gn (ht x (by simp[Tm.kids])) (hu y (by simp[Tm.kids])) (by omega)]
theorem Om(S:List Tm)(t u:Tm):∃b,Cl (.agg (BD S t)) (.agg (BD S u))=some b∧(b=true↔BD S t=BD S u):=by
 have si:∀a b:Int,Nn a b=decide (a=b):=fun a b=>by rw[Cp];rfl
 have ss:∀a b:List Nat,Br a b=decide (a=b):=fun a b=>by
  rw[Bool.eq_iff_iff,decide_eq_true_eq];exact G6
 refine⟨_,by simp only[BD,Cl,Cl.keysEq,Ba,AH,cond_true,Option.bind_some];rfl,?_⟩
 simp only[BD,si,ss,Bool.and_eq_true,decide_eq_true_eq,List.cons.injEq,and_true,AV.int.injEq,true_and,AV.str.injEq,Bool.and_true]
def CO(S:List Tm):List (AV×AV):=S.map fun t=>(.agg (BD S t),iv (ix S t))
theorem IK{S:List Tm}{u:Tm}(hs:I0 S)(hu:u ∉ S)(hk:∀k∈u.kids,k∈S):CO (S++[u])=CO S++[(.agg (BD S u),iv (S.length:Int))]:=by
  unfold CO
  rw[List.map_append]
  congr 1
  · refine List.map_congr_left fun t ht => ?_
    rw[Ck [u] fun k hkk=>(hs.kid ht hkk).1,C8 [u] ht]
  · simp only[bQ,List.map_nil,R5 hu,Ck [u] hk]
theorem HE          {S : List Tm} (hs : I0  S) {u : Tm} (hk : ∀ k ∈ u.kids, k ∈ S) (ho : u.ok) : ∀ (l : List Tm) (i : Nat), (∀ t ∈ l, t ∈ S) →
    CN (.agg (BD S u)) (l.map fun t=>(.agg (BD S t),iv (ix S t))) i=some (if u∈l then some (i+l.idxOf u,iv (ix S u))else none)
  | [],i,_=>by simp[CN]
  | t::l,i,h=>by
    obtain⟨b,hb,hbi⟩:=Om S u t
    simp only[bQ,CN,hb,Option.bind_some]
    by_cases e:u=t
    · subst e
      rw[hbi.2 rfl]
      simp
    · have hne : BD   S u ≠ BD   S t := fun h' => e (R6       hk (fun k hkk => (hs.kid (h t bH)                 hkk).1) ho (hs.ok t (h t bH))                 h')
      have hbf:b=false:=by
        cases b with
        | false=>rfl
        | true=>exact absurd (hbi.1 rfl) hne
      rw[hbf]
      simp only
      rw[HE hs hk ho l (i+1) fun x hx=>h x (bI _ hx)]
      by_cases hm:u∈l
      · rw[if_pos hm,if_pos (bI _ hm)]
        have:(t::l).idxOf u=l.idxOf u+1:=by rw[List.idxOf_cons,beq_false_of_ne (Ne.symm e)];rfl
        rw[this,show i+1+l.idxOf u=i+(l.idxOf u+1)from by omega]
      · rw[if_neg hm,if_neg (by simp[e,hm])]
theorem IJ{S:List Tm}(hs:I0 S){u:Tm}(hk:∀k∈u.kids,k∈S)(ho:u.ok):CN (.agg (BD S u)) (CO S) 0=some (if u∈S then some (ix S u,iv (ix S u))else none):=by
 have:=HE hs hk ho S 0 fun _ h=>h
 rw[ak]at this
 exact this
def A4(ks:List Int):List (AV×AV):=ks.map fun k=>(iv k,iv 1)
def Fg(ks:List Int)(k:Int):List Int:=if k∈ks then ks else ks++[k]
theorem IH         (k : Int) : ∀ (ks : List Int) (i : Nat), CN    (iv k) (A4     ks) i = some (if k ∈ ks then some (i + ks.idxOf k, iv 1) else none)
  | [],i=>by simp[CN,A4]
  | x::ks,i=>by
    have h1:Cl (iv k) (iv x)=some (decide (k=x)):=by simp[Cl,Ba,AH,Cp];rfl
    show(Cl (iv k) (iv x)).bind _=_
    rw[h1,Option.bind_some]
    by_cases e:k=x
    · subst e;simp
    · simp only [e, decide_false]
      show CN (iv k) (A4 ks) (i+1)=_
      rw[IH k ks (i+1)]
      by_cases hm:k∈ks
      · rw[if_pos hm,if_pos (bI _ hm)]
        have:(x::ks).idxOf k=ks.idxOf k+1:=by rw[List.idxOf_cons,beq_false_of_ne (Ne.symm e)];rfl
        rw[this,show i+1+ks.idxOf k=i+(ks.idxOf k+1)from by omega]
      · rw[if_neg hm,if_neg (by simp[e,hm])]
theorem HW:∀ (ks:List Int)(i:Nat),setNth (A4 ks) i (iv 1)=A4 ks
 | [],_=>rfl
 | k::ks,0=>rfl
 | k::ks,i+1=>by show(iv k,iv 1)::setNth (A4 ks) i (iv 1)=_;rw[HW ks i];rfl
theorem Jm(ks:List Int)(k:Int):JA (iv k) (iv 1) (A4 ks)=some (A4 (Fg ks k)):=by
 unfold JA Fg
 rw[IH,Option.bind_some]
 by_cases h:k∈ks
 ·rw[if_pos h,if_pos h]
  simp only[HW]
 ·rw[if_neg h,if_neg h]
  simp[A4]
theorem HT:∀ (ms ks:List Int),Gv (A4 ms) (A4 ks)=some (A4 (ms.foldl Fg ks))
 | [],_=>rfl
 | m::ms,ks=>by
  show(JA (iv m) (iv 1) (A4 ks)).bind _=_
  rw[Jm,Option.bind_some]
  exact HT ms _
theorem MD{ks:List Int}(h:ks.Nodup)(k:Int):(Fg ks k).Nodup:=by
  unfold Fg
  split
  · exact h
  · rename_i hk
    rw[List.nodup_append]
    exact⟨h,by simp,fun a ha b hb e=>by simp at hb;subst hb;subst e;exact hk ha⟩
theorem SC{ks:List Int}{k x:Int}:x∈Fg ks k↔x∈ks∨x=k:=by
 unfold Fg
 split
 ·rename_i hk
  exact⟨.inl,fun h=>h.elim (fun h=>h) (fun h=>by rw[h];exact hk)⟩
 ·simp
theorem HF:∀ (ms:List Int){ks:List Int},ks.Nodup→(ms.foldl Fg ks).Nodup
 | [],_,h=>h
 | m::ms,_,h=>HF ms (MD h m)
theorem Jc{x:Int}:∀ (ms:List Int){ks:List Int},x∈ms.foldl Fg ks↔x∈ks∨x∈ms
  | [],_=>by simp
  | m::ms,ks=>by
    rw[bt,Jc ms,SC]
    simp only[bT]
    constructor
    · rintro ((h | h) | h)
      · exact .inl h
      · exact .inr (.inl h)
      · exact .inr (.inr h)
    · rintro (h | h | h)
      · exact .inl (.inl h)
      · exact .inl (.inr h)
      · exact .inr h
theorem GK:∀ (ms:List Int)(ks:List Int),(ms.foldl Fg ks).length≤ks.length+ms.length
 | [],ks=>by simp
 | m::ms,ks=>by
  rw[bt]
  have:=GK ms (Fg ks m)
  have h:(Fg ks m).length≤ks.length+1:=by unfold Fg;split<;>simp
  simp;omega
end
end Go.Proofs.YtickdehehcmfbaaGreatDoor.Am
set_option linter.unusedVariables false
set_option linter.unusedSimpArgs false
namespace Go.Proofs.YtickdehehcmfbaaGreatDoor.Am
open Go
noncomputable section
section
variable{P:Program}{s:AD}{os:List Ac}{b k i o off n t e sz:Nat}{sp:Bool}{cs vs:List AV}
theorem Xb(cs:List AV):(AV.agg cs).cells=cs:=rfl
theorem Xc(q:IntKind)(n:Int):(AV.int q n).cells=[.int q n]:=rfl
theorem Xd(l:List Nat):(AV.str l).cells=[.str l]:=rfl
theorem Xe(x:Bool):(AV.bool x).cells=[.bool x]:=rfl
theorem Xf(m:Option Nat):(AV.map m).cells=[.map m]:=rfl
theorem Xg(a:Option (Nat×Nat)):(AV.ptr a).cells=[.ptr a]:=rfl
theorem Xh(a:Option (Nat×Nat))(n:Nat)(c:Option Nat):(AV.slice a n c).cells=[.slice a n c]:=rfl
theorem Xi(f:FuncId)(a c:List AV):(AV.func f a c).cells=[.func f a c]:=rfl
theorem Xj:AX []=true:=rfl
theorem Xk(v:AV)(l:List AV):AX (v::l)=(v.isCell && AX l):=rfl
theorem Xl(q:IntKind)(n:Int):(AV.int q n).isCell=true:=rfl
theorem Xm(l:List Nat):(AV.str l).isCell=true:=rfl
theorem Xn(x:Bool):(AV.bool x).isCell=true:=rfl
theorem Xo(m:Option Nat):(AV.map m).isCell=true:=rfl
theorem Xp(a:Option (Nat×Nat)):(AV.ptr a).isCell=true:=rfl
theorem Xq(a:Option (Nat×Nat))(n:Nat)(c:Option Nat):(AV.slice a n c).isCell=true:=rfl
theorem Xr(f:FuncId)(a c:List AV):(AV.func f a c).isCell=true:=rfl
theorem Xa{α:Type}(x:Option α):AH true x=x:=rfl
theorem TH(a b:Nat):Nat.beq a b=decide (a=b):=by
 rw[Bool.eq_iff_iff,decide_eq_true_eq,bf]
theorem TI(a b:Nat):Nat.ble a b=decide (a≤b):=by
 rw[Bool.eq_iff_iff,decide_eq_true_eq,bF]
theorem Rz(h:C0 P t=some false):AG P s t (.ptr (some (i,o)))=Cv (s.heap.get i) o:=by
 unfold AG
 rw[h];rfl
theorem Wa(h:C0 P t=some true):AG P s t (.ptr (some (i,o)))=(Ap P t).bind fun n=>(BB (s.heap.get i) o n).bind fun l=>some (.agg l):=by
 unfold AG
 rw[h];rfl
theorem Wb(v:AV):Ar P s t (.ptr (some (i,o))) v=(Ap P t).bind fun n=>AH (decide (v.cells.length=n)) (Bq s i o v.cells):=by
 unfold Ar
 simp only[TH]
def Z0:Option Ac→Bool
 | some (.row r)=>Cu r.mode && r.par.isNone
 | _=>false
def Zi(off:Nat)(vs:List AV):Option Ac→Option Ac
 | some (.row r)=>AH (Nat.ble (off+vs.length) r.n && AX vs) (some (.row { r with c:=r.c.fill off vs,par:=none }))
 | _=>none
theorem We(e sz:Nat)(sp:Bool)(cs:List AV):Z0 (some (R e sz sp cs))=true:=rfl
theorem Wf(e sz:Nat)(sp:Bool)(cs vs:List AV)(off:Nat):Zi off vs (some (R e sz sp cs))=AH (decide (off+vs.length≤cs.length) && AX vs) (some (R e sz sp (ET cs off vs))):=by
 show AH (Nat.ble (off+vs.length) cs.length && AX vs) (some (Ac.row { elem:=e,sz,n:=cs.length,c:=(O8 cs).fill off vs,spare:=sp,mode:=.own,par:=none,bytes:=true }))=_
 rw[TI]
 by_cases h:off+vs.length≤cs.length
 ·rw[Le _ _ _ h]
  simp only[h,decide_true]
  rw[R,Fc]
 ·simp only[h,decide_false,Bool.false_and]
  rfl
theorem Wc{v:AV}(h:Z0 (s.heap.get i)=true):Bq s i off (v::vs)=(Zi off (v::vs) (s.heap.get i)).bind fun o'=>some (setObj s i o'):=by
 unfold Bq
 rw[N6]
 cases hg:s.heap.get i with
 | none=>rw[hg]at h;cases h
 | some ob =>
  rw[hg]at h
  cases ob<;>first | (cases h;done) | skip
  rename_i r
  simp only[Z0,Bool.and_eq_true]at h
  have hp:r.par=none:=by cases hh:r.par with | none=>rfl | some _=>rw[hh]at h;simp at h
  show AH (Cu r.mode && Nat.ble (off+(v::vs).length) r.n && AX (v::vs)) _=(AH (Nat.ble (off+(v::vs).length) r.n && AX (v::vs)) _).bind _
  rw[h.1,Bool.true_and,A2,hp]
  cases Nat.ble (off+(v::vs).length) r.n && AX (v::vs)<;>rfl
theorem Ws(cs:List AV)(off:Nat):ET cs off []=cs:=rfl
theorem Wt(cs:List AV)(off:Nat)(v:AV)(vs:List AV):ET cs off (v::vs)=ET (cs.set off v) (off+1) vs:=rfl
theorem Wu(e:TypeId)(v:AV):DH e v=some (R e 0 false v.cells,.ptr):=rfl
theorem Wv(e:TypeId):Bi P e=(Bt P e).bind fun z=>some (R e 0 false z.cells,.ptr):=rfl
theorem Ww(i:Nat):Made.ptr.val i=.ptr (some (i,0)):=rfl
theorem Wx(i:Nat):Made.map.val i=.map (some i):=rfl
theorem Wy(i n:Nat):(Made.slice n).val i=.slice (some (i,0)) n (some n):=rfl
theorem Wz(a:Nat×Nat):AU (.ptr (some a))=some (.ptr (some a)):=rfl
end
def E8(e:TypeId)(sz:Nat)(s:AD)(v:AV)(n:Nat)(cs:List AV)(O:List Nat):Prop:=
 (v=.slice none 0 (some 0)∧n=0∧cs=[]∧O=[])∨∃i p,v=.slice (some (i,0)) n none∧FM e 0 s.next s v n sz cs i p∧O=i::p.toList
section
variable{e sz n:Nat}{s s':AD}{v:AV}{cs:List AV}{O:List Nat}
theorem E8.nil(e sz:Nat)(s:AD):E8 e sz s (.slice none 0 (some 0)) 0 [] []:=.inl ⟨rfl,rfl,rfl,rfl⟩
theorem E8.len(h:E8 e sz s v n cs O):cs.length=n * sz:=by
 rcases h with⟨_,rfl,rfl,_⟩ | ⟨i,p,_,h,_⟩
 ·simp
 ·exact h.len
theorem E8.lt  (h : E8  e sz s v n cs O) : ∀ j ∈ O, j < s.next := by
  rcases h with⟨_,_,_,rfl⟩ | ⟨i,p,hv,h,rfl⟩
  · intro j hj;cases hj
  · rcases h.ex with ⟨h1, _⟩ | ⟨_, _, h2, h3, _⟩
    · rw[hv]at h1;cases h1
    · intro j hj
      rcases bT.1 hj with rfl | hj
      · exact h2
      · cases p with
        | none=>cases hj
        | some q=>simp at hj;subst hj;exact(h3 _ rfl).2.1
theorem E8.frame(h:E8 e sz s v n cs O)(hn:s.next≤s'.next)(hf:∀j∈O,s'.heap.get j=s.heap.get j):E8 e sz s' v n cs O:=by
 rcases h with h | ⟨i,p,hv,h,rfl⟩
 ·exact .inl h
 ·exact .inr ⟨i,p,hv,(h.mono hn).frame fun _ _=>hf i (by simp),rfl⟩
theorem E8.slice(h:E8 e sz s v n cs O):∃a cap,v=.slice a n cap∧E9 s.next s a cs:=by
 rcases h with⟨rfl,rfl,rfl,_⟩ | ⟨i,p,_,h,_⟩
 ·exact⟨none,some 0,rfl,E9.nil⟩
 ·exact h.cells
theorem E8.row(h:E8 e sz s v n cs O):(v=.slice none 0 (some 0)∧n=0∧cs=[])∨∃i r,v=.slice (some (i,0)) n none∧i∈O∧s.heap.get i=some (.row r)∧Hq r cs:=by
  rcases h with⟨h1,h2,h3,_⟩ | ⟨i,p,hv,h,rfl⟩
  · exact .inl ⟨h1,h2,h3⟩
  · rcases h.ex with ⟨h1, _⟩ | ⟨_, _, _, _, r, h4, h5, _⟩
    · rw[hv]at h1;cases h1
    · exact .inr ⟨i,r,hv,by simp,h4,h5⟩
theorem X5{r:CK}{cs:List AV}(h:Hq r cs){k:Nat}{u:AV}(hk:cs[k]? = some u):Cv (some (.row r)) k=some u:=by
 have hlt:k<cs.length:=by
  rcases bE k cs.length with h' | h'
  ·exact h'
  ·rw[bJ h']at hk;cases hk
 show AH (Nat.blt k r.n) (r.c.get k)=_
 rw[Pn (show k<r.n by rw[h.1];exact hlt)]
 exact h.2 k u hk
theorem FD{r:CK}{cs:List AV}(h:Hq r cs){o m:Nat}(hle:o+m≤cs.length):BB (some (.row r)) o m=some ((cs.drop o).take m):=by
 show AH (Nat.ble (o+m) r.n) (r.c.take o m)=_
 rw[Do (show o+m≤r.n by rw[h.1];exact hle)]
 have hl:((cs.drop o).take m).length=m:=by simp;omega
 have:=h.take o ((cs.drop o).take m) (fun j u hj=>by
  have hjm:j<m:=by
   rcases bE j m with h' | h'
   ·exact h'
   ·rw[bJ (by omega)]at hj;cases hj
  rw[b3 hjm,b4]at hj
  exact hj)
 rw[hl]at this
 exact this
theorem E8.append  {P : Program} {st xt by_ : Nat} (ht : P.underlying st = some (.slice e)) (hs : Ap    P e = some sz) (hb : CC     P e = some by_) (h0 : 0 < sz) (hx : BS           P xt = true) (hz : B2     P e sz = true) (h : E8  e sz s v n cs O)
    {ax:Option (Nat×Nat)} {m:Nat} {cx:Option Nat} {add:List AV} (hm:0<m) (hsrc:CT P s e sz (.slice ax m cx)=some (m,add)) (ha:add.length=m * sz) (hc:AX add=true) (h1:(n+m) * by_≤1099511627776) (h2:n+m≤1099511627776):
    ∃v' s' O',BC P s [st,xt] [v,.slice ax m cx]=some (v',s')∧E8 e sz s' v' (n+m) (cs++add) O'∧s'.next=s.next+1∧(∀j,j<s.next→j ∉ O→s'.heap.get j=s.heap.get j)∧(∀j∈O',j∈O∨s.next≤j)∧Iq v'=some s.next:=by
  have key:∀ (i:Nat) (p:Option Nat),FM e 0 s.next s v n sz cs i p→(∀j,j<s.next→j ∉ O→j≠i∧p≠some j)→(∀j,j=i∨p=some j→j∈O∨s.next≤j) →
      ∃v' s' O',BC P s [st,xt] [v,.slice ax m cx]=some (v',s')∧E8 e sz s' v' (n+m) (cs++add) O'∧s'.next=s.next+1∧(∀j,j<s.next→j ∉ O→s'.heap.get j=s.heap.get j)∧(∀j∈O',j∈O∨s.next≤j)∧Iq v'=some s.next:=by
    intro i p hg hi hO
    obtain⟨a,cap,v',s',rfl,happ,i',p',hg',hap,_,rfl,hp',hn',_⟩:=hg.appTo (P:=P) (aj _) (bL _) hz h0 ha hm
    have hv':v'=.slice (some (s.next,0)) (n+m) none:=by
      rcases hg'.ex with⟨_,h0'⟩ | ⟨h1',_⟩
      · omega
      · exact h1'
    refine⟨v',s',s.next::p'.toList,by rw[ME ht hs hb h0 hx hsrc hc h1 h2];exact happ,.inr ⟨s.next,p',hv',hg',rfl⟩,hn',fun j hj hjO=>?_,fun j hj=>?_,by rw[hv'];rfl⟩
    · exact hap.2 j hj (hi j hj hjO).1 (hi j hj hjO).2
    · rcases bT.1            hj with rfl | hj
      · exact .inr (aj _)
      · rcases hp' with rfl | rfl
        · cases hj
        · simp at hj;subst hj;exact hO _ (.inl rfl)
  rcases h with⟨rfl,rfl,rfl,rfl⟩ | ⟨i,p,rfl,hg,rfl⟩
  · exact key s.next none (FM.zero _ _ _ _ _ _ _) (fun j hj _=>⟨by omega,by simp⟩) (fun j hj=>by rcases hj with rfl | hj;exact .inr (aj _);cases hj)
  · refine key i p hg (fun j hj hjO => ⟨fun e => hjO (by simp [e]), fun e => hjO (by simp [e])⟩) (fun j hj => ?_)
    rcases hj with rfl | rfl<;>simp
end
end
end Go.Proofs.YtickdehehcmfbaaGreatDoor.Am
set_option linter.unusedVariables false
set_option linter.unusedSimpArgs false
set_option maxRecDepth 100000
namespace Go.Proofs.YtickdehehcmfbaaGreatDoor.Am
open Go Go.Proofs
noncomputable section
theorem Ea:Ap Tryz.prog 3=some 1:=by kernel_rfl
theorem Zw:CC Tryz.prog 3=some 8:=by kernel_rfl
theorem C6:C0 Tryz.prog 3=some false:=by kernel_rfl
theorem ai:Bt Tryz.prog 3=some (.int .i64 (0)):=by kernel_rfl
theorem Gl(i o:Nat):AB Tryz.prog 62 (.ptr (some (i,o))) 0=some (.ptr (some (i,o+0))):=by kernel_rfl
theorem RO(i o:Nat):AB Tryz.prog 62 (.ptr (some (i,o))) 1=some (.ptr (some (i,o+1))):=by kernel_rfl
theorem Yj:C0 Tryz.prog 25=some false:=by kernel_rfl
theorem Kn:Ap Tryz.prog 70=some 16:=by kernel_rfl
theorem Zy:CC Tryz.prog 70=some 184:=by kernel_rfl
theorem TE:C0 Tryz.prog 70=some true:=by kernel_rfl
theorem YR:Bt Tryz.prog 70=some (.agg [(.int .i64 (0)),(.int .i64 (0)),(.int .i64 (0)),(.int .i64 (0)),(.int .i64 (0)),(.str []),(.int .i64 (0)),(.bool false),(.str []),(.str []),(.slice none 0 (some 0)),(.slice none 0 (some 0)),(.int .i64 (0)),(.int .i64 (0)),(.int .i64 (0)),(.map none)]):=by kernel_rfl
theorem IE(i o:Nat):AB Tryz.prog 70 (.ptr (some (i,o))) 0=some (.ptr (some (i,o+0))):=by kernel_rfl
theorem RQ(i o:Nat):AB Tryz.prog 70 (.ptr (some (i,o))) 2=some (.ptr (some (i,o+13))):=by kernel_rfl
theorem Xz(i o:Nat):AB Tryz.prog 70 (.ptr (some (i,o))) 3=some (.ptr (some (i,o+14))):=by kernel_rfl
theorem X2(cs:List AV):Fh Tryz.prog 70 (.agg cs) 3=cs[14]? := by kernel_rfl
theorem RR(i o:Nat):AB Tryz.prog 70 (.ptr (some (i,o))) 4=some (.ptr (some (i,o+15))):=by kernel_rfl
theorem X3(cs:List AV):Fh Tryz.prog 70 (.agg cs) 4=cs[15]? := by kernel_rfl
theorem Z6:Ap Tryz.prog 59=some 1:=by kernel_rfl
theorem OP:C0 Tryz.prog 59=some false:=by kernel_rfl
theorem YM:Ap Tryz.prog 65=some 6:=by kernel_rfl
theorem WU:C0 Tryz.prog 65=some true:=by kernel_rfl
theorem ID(i o:Nat):AB Tryz.prog 65 (.ptr (some (i,o))) 0=some (.ptr (some (i,o+0))):=by kernel_rfl
theorem KL(i o:Nat):AB Tryz.prog 65 (.ptr (some (i,o))) 1=some (.ptr (some (i,o+1))):=by kernel_rfl
theorem RP(i o:Nat):AB Tryz.prog 65 (.ptr (some (i,o))) 2=some (.ptr (some (i,o+2))):=by kernel_rfl
theorem Ym:C0 Tryz.prog 60=some false:=by kernel_rfl
theorem Z7:Ap Tryz.prog 68=some 1:=by kernel_rfl
theorem OQ:C0 Tryz.prog 68=some false:=by kernel_rfl
theorem aC:Bt Tryz.prog 68=some (.map none):=by kernel_rfl
theorem Z4:Ap Tryz.prog 27=some 1:=by kernel_rfl
theorem Ht:C0 Tryz.prog 27=some false:=by kernel_rfl
theorem aA:Bt Tryz.prog 27=some (.slice none 0 (some 0)):=by kernel_rfl
theorem He:Ap Tryz.prog 43=some 7:=by kernel_rfl
theorem Hu:C0 Tryz.prog 43=some true:=by kernel_rfl
theorem Zn:Bt Tryz.prog 43=some (.agg [(.int .i64 (0)),(.bool false),(.str []),(.str []),(.slice none 0 (some 0)),(.slice none 0 (some 0)),(.int .i64 (0))]):=by kernel_rfl
theorem RL(i o:Nat):AB Tryz.prog 43 (.ptr (some (i,o))) 0=some (.ptr (some (i,o+0))):=by kernel_rfl
theorem RM(i o:Nat):AB Tryz.prog 43 (.ptr (some (i,o))) 4=some (.ptr (some (i,o+4))):=by kernel_rfl
def UI:List AC:=[
 ⟨none,.p1 some,[(.const (.int .i64 (0)))],(.set 1),[]⟩]
def UJ:List AC:=[
 ⟨none,.p2 (AO Tryz.prog .eql 25),[(.var 0),(.const (.ptr none))],(.set 2),[]⟩]
def Ys:List AC:=[
 ⟨none,.p1 some,[(.const (.int .i64 (0)))],(.set 1),[]⟩]
def UK:List AC:=[
 ⟨none,.p1 AU,[.var 0],.push,[]⟩,
 ⟨none,.p1 (fun x=>AB Tryz.prog 62 x 0),[.loc 0],.push,[]⟩,
 ⟨none,.r1 (fun s a=>AG Tryz.prog s 59 a),[.loc 0],.push,[]⟩,
 ⟨none,.r (fun s l=>match l with | [x]=>BT Tryz.prog s 59 x | _=>none),[.loc 0],.push,[]⟩,
 ⟨none,.p1 some,[.loc 0],(.set 1),[]⟩]
def Yq:Aq:=⟨1,3,(.seq (.ops UI) (.seq (.seq (.ops UJ) (.cond (.var 2)
 (.seq (.ops Ys) .ret)
 .skip)) (.seq (.ops UK) .ret))),[((.var 1),none)]⟩
def UL:List AC:=[
 ⟨none,.p1 some,[(.const (.int .i64 (0)))],(.set 2),[]⟩]
def UM:List AC:=[
 ⟨none,.p2 (AO Tryz.prog .eql 25),[(.var 0),(.const (.ptr none))],(.set 3),[]⟩]
def Yu:List AC:=[
 ⟨none,.p1 some,[(.const (.int .i64 (0)))],(.set 2),[]⟩]
def UN:List AC:=[
 ⟨none,.p (fun l=>AR Tryz.prog 65 (zipIdx [0,1] l)),[(.const (.int .i64 (0))),(.var 1)],.push,[]⟩,
 ⟨none,.p (fun l=>AR Tryz.prog 43 (zipIdx [] l)),[],.push,[]⟩,
 ⟨none,.call 32,[(.var 0),(.loc 1),(.loc 0),(.const (.slice none 0 (some 0)))],.push,[]⟩,
 ⟨none,.p1 some,[.loc 0],(.set 2),[]⟩]
def Yt:Aq:=⟨2,4,(.seq (.ops UL) (.seq (.seq (.ops UM) (.cond (.var 3)
 (.seq (.ops Yu) .ret)
 .skip)) (.seq (.ops UN) .ret))),[((.var 2),none)]⟩
def UO:List AC:=[
 ⟨none,.p1 some,[(.const (.slice none 0 (some 0)))],(.set 2),[]⟩]
def UP:List AC:=[
 ⟨none,.call 39,[.var 0,.var 1],.push,[]⟩,
 ⟨none,.p1 (fun x=>Fh Tryz.prog 70 x 4),[.loc 0],.push,[]⟩,
 ⟨none,.call 38,[.loc 0],.push,[]⟩,
 ⟨none,.call 37,[.loc 0],.push,[]⟩,
 ⟨none,.p1 some,[.loc 0],(.set 2),[]⟩]
def aD:Aq:=⟨2,3,(.seq (.ops UO) (.seq (.ops UP) .ret)),[((.var 2),none)]⟩
def UQ:List AC:=[
 ⟨none,.p1 some,[(.const (.int .i64 (0)))],(.set 2),[]⟩]
def UR:List AC:=[
 ⟨none,.call 39,[.var 0,.var 1],.push,[]⟩,
 ⟨none,.p1 (fun x=>Fh Tryz.prog 70 x 3),[.loc 0],.push,[]⟩,
 ⟨none,.p1 some,[.loc 0],(.set 2),[]⟩]
def aE:Aq:=⟨2,3,(.seq (.ops UQ) (.seq (.ops UR) .ret)),[((.var 2),none)]⟩
def Ue:List AC:=[
 ⟨none,.p1 some,[(.const (.int .i64 (0)))],(.set 2),[]⟩]
def Uf:List AC:=[
 ⟨none,.p2 (AO Tryz.prog .eql 25),[(.var 0),(.const (.ptr none))],(.set 3),[]⟩]
def Yv:List AC:=[
 ⟨none,.p1 some,[(.const (.int .i64 (0)))],(.set 2),[]⟩]
def Ug:List AC:=[
 ⟨none,.p (fun l=>match l with | v::l=>CD true v l | []=>none),[(.var 1),(.const (.int .i64 (0)))],.push,[]⟩,
 ⟨none,.p (fun l=>AR Tryz.prog 65 (zipIdx [0,1] l)),[(.const (.int .i64 (1))),(.loc 0)],.push,[]⟩,
 ⟨none,.p (fun l=>AR Tryz.prog 43 (zipIdx [] l)),[],.push,[]⟩,
 ⟨none,.call 32,[(.var 0),(.loc 1),(.loc 0),(.const (.slice none 0 (some 0)))],.push,[]⟩,
 ⟨none,.p1 some,[.loc 0],(.set 2),[]⟩]
def aG:Aq:=⟨2,4,(.seq (.ops Ue) (.seq (.seq (.ops Uf) (.cond (.var 3)
 (.seq (.ops Yv) .ret)
 .skip)) (.seq (.ops Ug) .ret))),[((.var 2),none)]⟩
def Uh:List AC:=[
 ⟨none,.mk (fun l=>match l with | [v]=>DH 43 v | _=>none),[.var 1],(.set 2),[]⟩,
 ⟨none,.p1 some,[(.const (.int .i64 (0)))],(.set 3),[]⟩]
def Ui:List AC:=[
 ⟨none,.p2 (AO Tryz.prog .eql 25),[(.var 0),(.const (.ptr none))],(.set 4),[]⟩]
def Yw:List AC:=[
 ⟨none,.p1 some,[(.const (.int .i64 (0)))],(.set 3),[]⟩]
def Uj:List AC:=[
 ⟨none,.r1 (fun s a=>AG Tryz.prog s 43 a),[.var 2],.push,[]⟩,
 ⟨none,.call 44,[.loc 0],.push,[]⟩,
 ⟨none,.p1 (Pf Tryz.prog Go.UnOp.not),[.loc 0],.push,[]⟩,
 ⟨(some ((.loc 0),false)),.p1 (fun x=>AB Tryz.prog 43 x 0),[.var 2],.push,[]⟩,
 ⟨(some ((.loc 1),false)),.r1 (fun s a=>AG Tryz.prog s 3 a),[.loc 0],.push,[]⟩,
 ⟨(some ((.loc 2),false)),.p2 (AO Tryz.prog .eql 3),[(.loc 0),(.const (.int .i64 (5)))],.push,[]⟩,
 ⟨none,.p Rn,[(.loc 3),(.const (.bool true)),(.loc 0)],.push,[]⟩,
 ⟨(some ((.loc 0),false)),.p1 (fun x=>AB Tryz.prog 43 x 4),[.var 2],.push,[]⟩,
 ⟨(some ((.loc 1),false)),.r1 (fun s a=>AG Tryz.prog s 39 a),[.loc 0],.push,[]⟩,
 ⟨(some ((.loc 2),false)),.r (fun s l=>match l with | [x]=>BT Tryz.prog s 39 x | _=>none),[.loc 0],.push,[]⟩,
 ⟨(some ((.loc 3),false)),.p2 (AO Tryz.prog .gtr 3),[(.loc 0),(.const (.int .i64 (0)))],.push,[]⟩,
 ⟨none,.p Rn,[(.loc 4),(.const (.bool true)),(.loc 0)],(.set 5),[]⟩]
def Yx:List AC:=[
 ⟨none,.p (fun l=>AR Tryz.prog 43 (zipIdx [] l)),[],.push,[]⟩,
 ⟨none,.e (fun s=>Xs (fun a x=>Xu (Ar Tryz.prog s 43 a x))),[.var 2,.loc 0],.push,[]⟩]
def Uk:List AC:=[
 ⟨none,.r1 (fun s a=>AG Tryz.prog s 43 a),[.var 2],.push,[]⟩,
 ⟨none,.r1 (fun s a=>AG Tryz.prog s 43 a),[.var 2],.push,[]⟩,
 ⟨none,.call 30,[.loc 1],.push,[⟨none,.r1 (fun s a=>AG Tryz.prog s 43 a),[.var 2],(.loc 1)⟩]⟩,
 ⟨none,.p (fun l=>AR Tryz.prog 65 (zipIdx [0,3] l)),[(.const (.int .i64 (2))),(.loc 0)],.push,[]⟩,
 ⟨none,.call 32,[(.var 0),(.loc 0),(.loc 2),(.const (.slice none 0 (some 0)))],.push,[]⟩,
 ⟨none,.p1 some,[.loc 0],(.set 3),[]⟩]
def aH:Aq:=⟨2,6,(.seq (.ops Uh) (.seq (.seq (.ops Ui) (.cond (.var 4)
 (.seq (.ops Yw) .ret)
 .skip)) (.seq (.seq (.ops Uj) (.cond (.var 5)
 (.ops Yx)
 .skip)) (.seq (.ops Uk) .ret)))),[((.var 3),none)]⟩
def Ul:List AC:=[
 ⟨none,.p1 some,[(.const (.int .i64 (0)))],(.set 3),[]⟩]
def Um:List AC:=[
 ⟨none,.p2 (AO Tryz.prog .eql 25),[(.var 0),(.const (.ptr none))],(.set 4),[]⟩]
def Yy:List AC:=[
 ⟨none,.p1 some,[(.const (.int .i64 (0)))],(.set 3),[]⟩]
def Un:List AC:=[
 ⟨none,.p (fun l=>AR Tryz.prog 65 (zipIdx [0] l)),[(.const (.int .i64 (3)))],.push,[]⟩,
 ⟨none,.p (fun l=>AR Tryz.prog 43 (zipIdx [] l)),[],.push,[]⟩,
 ⟨none,.mk (fun l=>(Ae Tryz.prog 27 2 (zipIdx [0,1] l)).bind fun r=>some (r,.slice 2)),[.var 1,.var 2],.push,[]⟩,
 ⟨none,.call 34,[.var 0,.loc 0],.push,[]⟩,
 ⟨none,.call 32,[.var 0,.loc 3,.loc 2,.loc 0],.push,[]⟩,
 ⟨none,.p1 some,[.loc 0],(.set 3),[]⟩]
def aI:Aq:=⟨3,5,(.seq (.ops Ul) (.seq (.seq (.ops Um) (.cond (.var 4)
 (.seq (.ops Yy) .ret)
 .skip)) (.seq (.ops Un) .ret))),[((.var 3),none)]⟩
def Uo:List AC:=[
 ⟨none,.p1 some,[(.const (.int .i64 (0)))],(.set 4),[]⟩]
def Up:List AC:=[
 ⟨none,.p2 (AO Tryz.prog .eql 25),[(.var 0),(.const (.ptr none))],(.set 5),[]⟩]
def Yz:List AC:=[
 ⟨none,.p1 some,[(.const (.int .i64 (0)))],(.set 4),[]⟩]
def Uq:List AC:=[
 ⟨none,.p (fun l=>AR Tryz.prog 65 (zipIdx [0] l)),[(.const (.int .i64 (4)))],.push,[]⟩,
 ⟨none,.p (fun l=>AR Tryz.prog 43 (zipIdx [] l)),[],.push,[]⟩,
 ⟨none,.mk (fun l=>(Ae Tryz.prog 27 3 (zipIdx [0,1,2] l)).bind fun r=>some (r,.slice 3)),[.var 1,.var 2,.var 3],.push,[]⟩,
 ⟨none,.call 34,[.var 0,.loc 0],.push,[]⟩,
 ⟨none,.call 32,[.var 0,.loc 3,.loc 2,.loc 0],.push,[]⟩,
 ⟨none,.p1 some,[.loc 0],(.set 4),[]⟩]
def aJ:Aq:=⟨4,6,(.seq (.ops Uo) (.seq (.seq (.ops Up) (.cond (.var 5)
 (.seq (.ops Yz) .ret)
 .skip)) (.seq (.ops Uq) .ret))),[((.var 4),none)]⟩
def Ur:List AC:=[
 ⟨none,.mk (fun l=>match l with | [v]=>DH 3 v | _=>none),[.var 2],(.set 4),[]⟩,
 ⟨none,.p1 some,[(.const (.int .i64 (0)))],(.set 5),[]⟩]
def Us:List AC:=[
 ⟨none,.p2 (AO Tryz.prog .eql 25),[(.var 0),(.const (.ptr none))],(.set 7),[]⟩]
def Y0:List AC:=[
 ⟨none,.p1 some,[(.const (.int .i64 (0)))],(.set 5),[]⟩]
def Ut:List AC:=[
 ⟨none,.mk (fun l=>(Ae Tryz.prog 27 2 (zipIdx [0,1] l)).bind fun r=>some (r,.slice 2)),[.var 1,.var 3],.push,[]⟩,
 ⟨none,.call 34,[.var 0,.loc 0],.push,[]⟩,
 ⟨none,.mk (fun l=>match l with | []=>Bi Tryz.prog 27 | _=>none),[],(.set 6),[]⟩,
 ⟨none,.e (fun s=>Xs (fun a x=>Xu (Ar Tryz.prog s 27 a x))),[.var 6,.loc 0],.push,[]⟩]
def Uu:List AC:=[
 ⟨none,.r1 (fun s a=>AG Tryz.prog s 27 a),[.var 6],.push,[]⟩,
 ⟨none,.p2 (AK Tryz.prog 27),[(.loc 0),(.const (.int .i64 (0)))],.push,[]⟩,
 ⟨none,.r1 (fun s a=>AG Tryz.prog s 3 a),[.loc 0],.push,[]⟩,
 ⟨none,.p (fun l=>some (.func 47 (l.take 0) (l.drop 0))),[.var 6,.var 4],.push,[]⟩,
 ⟨none,.call 33,[.var 0,.loc 1,.loc 0],.push,[]⟩,
 ⟨none,.p1 some,[.loc 0],(.set 5),[]⟩]
def aK:Aq:=⟨4,8,(.seq (.ops Ur) (.seq (.seq (.ops Us) (.cond (.var 7)
 (.seq (.ops Y0) .ret)
 .skip)) (.seq (.ops Ut) (.seq (.ops Uu) .ret)))),[((.var 5),none)]⟩
def Uv:List AC:=[
 ⟨none,.p1 some,[(.const (.ptr none))],(.set 0),[]⟩]
def Uw:List AC:=[
 ⟨none,.mk (fun l=>match l with | []=>(C9 Tryz.prog 60).bind fun kt=>some (.map kt [],.map) | _=>none),[],.push,[]⟩,
 ⟨none,.p (fun l=>AR Tryz.prog 62 (zipIdx [1] l)),[.loc 0],.push,[]⟩,
 ⟨none,.mk (fun l=>match l with | [v]=>DH 62 v | _=>none),[.loc 0],.push,[]⟩,
 ⟨none,.p1 some,[.loc 0],(.set 0),[]⟩]
def aL:Aq:=⟨0,1,(.seq (.ops Uv) (.seq (.ops Uw) .ret)),[((.var 0),none)]⟩
def Ux:List AC:=[
 ⟨none,.mk (fun l=>match l with | [v]=>DH 65 v | _=>none),[.var 1],(.set 4),[]⟩,
 ⟨none,.mk (fun l=>match l with | [v]=>DH 43 v | _=>none),[.var 2],(.set 5),[]⟩,
 ⟨none,.p1 some,[(.const (.int .i64 (0)))],(.set 6),[]⟩]
def Uy:List AC:=[
 ⟨none,.p1 (fun x=>AB Tryz.prog 65 x 2),[.var 4],.push,[]⟩,
 ⟨none,.r (Ay Tryz.prog 44 false false false),[.loc 0],.push,[]⟩,
 ⟨none,.e (fun s l=>IA Tryz.prog s [27,27] l),[.loc 0,.var 3],.push,[]⟩]
def Uz:List AC:=[
 ⟨none,.p1 AU,[.var 0],.push,[]⟩,
 ⟨none,.p1 (fun x=>AB Tryz.prog 62 x 1),[.loc 0],.push,[]⟩,
 ⟨none,.r1 (fun s a=>AG Tryz.prog s 60 a),[.loc 0],.push,[]⟩,
 ⟨none,.r1 (fun s a=>AG Tryz.prog s 65 a),[.var 4],.push,[]⟩,
 ⟨none,.r (fun s=>Xs (fun m k=>Bx Tryz.prog s 60 m k true)),[.loc 1,.loc 0],.push,[]⟩,
 ⟨none,.p1 (fun x=>Xv x 0),[.loc 0],.push,[]⟩,
 ⟨none,.p1 (fun x=>Xv x 1),[.loc 1],.push,[]⟩,
 ⟨none,.p1 some,[.loc 1],(.set 7),[]⟩,
 ⟨none,.p1 some,[.loc 0],(.set 8),[]⟩]
def P6:List AC:=[
 ⟨none,.p1 some,[.var 8],(.set 11),[]⟩]
def U0:List AC:=[
 ⟨none,.p1 some,[.var 7],(.set 6),[]⟩]
def U1:List AC:=[
 ⟨none,.r1 (fun s a=>AG Tryz.prog s 65 a),[.var 4],.push,[]⟩,
 ⟨none,.r1 (fun s a=>AG Tryz.prog s 43 a),[.var 5],.push,[]⟩,
 ⟨none,.r (fun s l=>match l with | [x]=>BT Tryz.prog s 27 x | _=>none),[.var 3],.push,[]⟩,
 ⟨none,.mk (fun l=>match l with | []=>(C9 Tryz.prog 68).bind fun kt=>some (.map kt [],.map) | _=>none),[],.push,[]⟩,
 ⟨none,.p (fun l=>AR Tryz.prog 70 (zipIdx [0,1,2,3,4] l)),[(.loc 3),(.loc 2),(.loc 1),(.const (.int .i64 (1))),(.loc 0)],.push,[]⟩,
 ⟨none,.mk (fun l=>match l with | []=>Bi Tryz.prog 70 | _=>none),[],(.set 9),[]⟩,
 ⟨none,.e (fun s=>Xs (fun a x=>Xu (Ar Tryz.prog s 70 a x))),[.var 9,.loc 0],.push,[]⟩]
def U2:List AC:=[
 ⟨none,.p1 (fun x=>AB Tryz.prog 65 x 0),[.var 4],.push,[]⟩,
 ⟨none,.r1 (fun s a=>AG Tryz.prog s 3 a),[.loc 0],.push,[]⟩,
 ⟨none,.p2 (AO Tryz.prog .eql 3),[(.loc 0),(.const (.int .i64 (0)))],(.set 12),[]⟩]
def U3:List AC:=[
 ⟨none,.p1 (fun x=>AB Tryz.prog 70 x 4),[.var 9],.push,[]⟩,
 ⟨none,.r1 (fun s a=>AG Tryz.prog s 68 a),[.loc 0],.push,[]⟩,
 ⟨none,.p1 (fun x=>AB Tryz.prog 65 x 1),[.var 4],.push,[]⟩,
 ⟨none,.r1 (fun s a=>AG Tryz.prog s 3 a),[.loc 0],.push,[]⟩,
 ⟨none,.e (fun s=>Xt (fun m k x=>Xu (Bz Tryz.prog s 68 m k x))),[(.loc 2),(.loc 0),(.const (.int .i64 (1)))],.push,[]⟩]
def P7:List AC:=[
 ⟨none,.p1 some,[.var 3],(.set 13),[]⟩,
 ⟨none,.r (fun s l=>match l with | [x]=>BT Tryz.prog s 27 x | _=>none),[.var 13],(.set 14),[]⟩,
 ⟨none,.p1 some,[(.const (.int .i64 (0)))],(.set 15),[]⟩]
def P8:List AC:=[
 ⟨none,.p2 (AO Tryz.prog .lss 3),[.var 15,.var 14],(.set 16),[]⟩]
def P2:List AC:=[
 ⟨none,.p2 (AK Tryz.prog 27),[.var 13,.var 15],.push,[]⟩,
 ⟨none,.r1 (fun s a=>AG Tryz.prog s 3 a),[.loc 0],.push,[]⟩,
 ⟨none,.p1 some,[.loc 0],(.set 10),[]⟩]
def P3:List AC:=[
 ⟨none,.p1 (fun x=>AB Tryz.prog 70 x 3),[.var 9],.push,[]⟩,
 ⟨none,.r1 (fun s a=>AG Tryz.prog s 3 a),[.loc 0],.push,[]⟩,
 ⟨none,.p1 AU,[.var 0],.push,[]⟩,
 ⟨none,.p1 (fun x=>AB Tryz.prog 62 x 0),[.loc 0],.push,[]⟩,
 ⟨none,.r1 (fun s a=>AG Tryz.prog s 59 a),[.loc 0],.push,[]⟩,
 ⟨none,.p2 (AK Tryz.prog 59),[.loc 0,.var 10],.push,[]⟩,
 ⟨none,.p1 (fun x=>AB Tryz.prog 70 x 3),[.loc 0],.push,[]⟩,
 ⟨none,.r1 (fun s a=>AG Tryz.prog s 3 a),[.loc 0],.push,[]⟩,
 ⟨none,.p2 (AO Tryz.prog .add 3),[.loc 6,.loc 0],.push,[]⟩,
 ⟨none,.p (fun l=>match l with | v::l=>CD false v l | []=>none),[(.loc 0),(.const (.int .i64 (4097)))],.push,[]⟩,
 ⟨none,.p1 (fun x=>AB Tryz.prog 70 x 3),[.var 9],.push,[]⟩,
 ⟨none,.e (fun s=>Xs (fun a x=>Xu (Ar Tryz.prog s 3 a x))),[.loc 0,.loc 1],.push,[]⟩]
def P4:List AC:=[
 ⟨none,.p1 (fun x=>AB Tryz.prog 70 x 4),[.var 9],.push,[]⟩,
 ⟨none,.r1 (fun s a=>AG Tryz.prog s 68 a),[.loc 0],.push,[]⟩,
 ⟨none,.p1 AU,[.var 0],.push,[]⟩,
 ⟨none,.p1 (fun x=>AB Tryz.prog 62 x 0),[.loc 0],.push,[]⟩,
 ⟨none,.r1 (fun s a=>AG Tryz.prog s 59 a),[.loc 0],.push,[]⟩,
 ⟨none,.p2 (AK Tryz.prog 59),[.loc 0,.var 10],.push,[]⟩,
 ⟨none,.p1 (fun x=>AB Tryz.prog 70 x 4),[.loc 0],.push,[]⟩,
 ⟨none,.r1 (fun s a=>AG Tryz.prog s 68 a),[.loc 0],.push,[]⟩,
 ⟨none,.call 55,[.loc 6,.loc 0],.push,[]⟩]
def P5:List AC:=[
 ⟨none,.p2 (AO Tryz.prog .add 3),[(.var 15),(.const (.int .i64 (1)))],.push,[]⟩,
 ⟨none,.p1 some,[.loc 0],(.set 15),[]⟩]
def Gf:AZ:=(.seq (.ops P8) (.seq (.cond (.var 16)
 .skip
 (.exit 0)) (.seq (.block 1 (.seq (.ops P2) (.seq (.ops P3) (.ops P4)))) (.ops P5))))
def KC:List AC:=[
 ⟨none,.p1 AU,[.var 0],.push,[]⟩,
 ⟨none,.p1 (fun x=>AB Tryz.prog 62 x 0),[.loc 0],.push,[]⟩,
 ⟨none,.r1 (fun s a=>AG Tryz.prog s 59 a),[.loc 0],.push,[]⟩,
 ⟨none,.r1 (fun s a=>AG Tryz.prog s 70 a),[.var 9],.push,[]⟩,
 ⟨none,.mk (fun l=>(Ae Tryz.prog 59 1 (zipIdx [0] l)).bind fun r=>some (r,.slice 1)),[.loc 0],.push,[]⟩,
 ⟨none,.e (fun s l=>BC Tryz.prog s [59,59] l),[.loc 2,.loc 0],.push,[]⟩,
 ⟨none,.p1 AU,[.var 0],.push,[]⟩,
 ⟨none,.p1 (fun x=>AB Tryz.prog 62 x 0),[.loc 0],.push,[]⟩,
 ⟨none,.e (fun s=>Xs (fun a x=>Xu (Ar Tryz.prog s 59 a x))),[.loc 0,.loc 2],.push,[]⟩]
def KD:List AC:=[
 ⟨none,.p1 AU,[.var 0],.push,[]⟩,
 ⟨none,.p1 (fun x=>AB Tryz.prog 62 x 1),[.loc 0],.push,[]⟩,
 ⟨none,.r1 (fun s a=>AG Tryz.prog s 60 a),[.loc 0],.push,[]⟩,
 ⟨none,.r1 (fun s a=>AG Tryz.prog s 65 a),[.var 4],.push,[]⟩,
 ⟨none,.p1 AU,[.var 0],.push,[]⟩,
 ⟨none,.p1 (fun x=>AB Tryz.prog 62 x 0),[.loc 0],.push,[]⟩,
 ⟨none,.r1 (fun s a=>AG Tryz.prog s 59 a),[.loc 0],.push,[]⟩,
 ⟨none,.r (fun s l=>match l with | [x]=>BT Tryz.prog s 59 x | _=>none),[.loc 0],.push,[]⟩,
 ⟨none,.p2 (AO Tryz.prog .sub 3),[(.loc 0),(.const (.int .i64 (1)))],.push,[]⟩,
 ⟨none,.e (fun s=>Xt (fun m k x=>Xu (Bz Tryz.prog s 60 m k x))),[.loc 6,.loc 5,.loc 0],.push,[]⟩]
def KE:List AC:=[
 ⟨none,.p1 AU,[.var 0],.push,[]⟩,
 ⟨none,.p1 (fun x=>AB Tryz.prog 62 x 0),[.loc 0],.push,[]⟩,
 ⟨none,.r1 (fun s a=>AG Tryz.prog s 59 a),[.loc 0],.push,[]⟩,
 ⟨none,.r (fun s l=>match l with | [x]=>BT Tryz.prog s 59 x | _=>none),[.loc 0],.push,[]⟩,
 ⟨none,.p2 (AO Tryz.prog .sub 3),[(.loc 0),(.const (.int .i64 (1)))],.push,[]⟩,
 ⟨none,.p1 some,[.loc 0],(.set 6),[]⟩]
def aM:Aq:=⟨4,17,(.seq (.ops Ux) (.seq (.ops Uy) (.seq (.seq (.ops Uz) (.seq (.ops P6) (.cond (.var 11)
 (.seq (.ops U0) .ret)
 .skip))) (.seq (.ops U1) (.seq (.seq (.ops U2) (.cond (.var 12)
 (.ops U3)
 .skip)) (.seq (.seq (.ops P7) (.block 0 (.loop Gf))) (.seq (.ops KC) (.seq (.ops KD) (.seq (.ops KE) .ret))))))))),[((.var 6),none)]⟩
def U4:List AC:=[
 ⟨none,.mk (fun l=>match l with | [v]=>DH 25 v | _=>none),[.var 0],(.set 3),[]⟩,
 ⟨none,.mk (fun l=>match l with | [v]=>DH 103 v | _=>none),[.var 2],(.set 4),[]⟩,
 ⟨none,.p1 some,[(.const (.int .i64 (0)))],(.set 5),[]⟩]
def U5:List AC:=[
 ⟨none,.mk (fun l=>match l with | []=>(C9 Tryz.prog 68).bind fun kt=>some (.map kt [],.map) | _=>none),[],.push,[]⟩,
 ⟨none,.mk (fun l=>match l with | []=>Bi Tryz.prog 68 | _=>none),[],(.set 6),[]⟩,
 ⟨none,.e (fun s=>Xs (fun a x=>Xu (Ar Tryz.prog s 68 a x))),[.var 6,.loc 0],.push,[]⟩]
def U6:List AC:=[
 ⟨none,.mk (fun l=>match l with | []=>Bi Tryz.prog 31 | _=>none),[],(.set 7),[]⟩]
def U7:List AC:=[
 ⟨none,.p (fun l=>some (.func 56 (l.take 0) (l.drop 0))),[.var 6,.var 3,.var 4,.var 7],.push,[]⟩,
 ⟨none,.e (fun s=>Xs (fun a x=>Xu (Ar Tryz.prog s 31 a x))),[.var 7,.loc 0],.push,[]⟩]
def U8:List AC:=[
 ⟨none,.r1 (fun s a=>AG Tryz.prog s 31 a),[.var 7],.push,[]⟩,
 ⟨none,.callv,[.loc 0,.var 1],.push,[]⟩,
 ⟨none,.p1 some,[.loc 0],(.set 5),[]⟩]
def aN:Aq:=⟨3,8,(.seq (.ops U4) (.seq (.ops U5) (.seq (.ops U6) (.seq (.ops U7) (.seq (.ops U8) .ret))))),[((.var 5),none)]⟩
def VU:List AC:=[
 ⟨none,.p1 some,[(.const (.int .i64 (0)))],(.set 5),[]⟩]
def VV:List AC:=[
 ⟨none,.r1 (fun s a=>AG Tryz.prog s 68 a),[.var 1],.push,[]⟩,
 ⟨none,.r (fun s=>Xs (fun m k=>Bx Tryz.prog s 68 m k true)),[.loc 0,.var 0],.push,[]⟩,
 ⟨none,.p1 (fun x=>Xv x 0),[.loc 0],.push,[]⟩,
 ⟨none,.p1 (fun x=>Xv x 1),[.loc 1],.push,[]⟩,
 ⟨none,.p1 some,[.loc 1],(.set 6),[]⟩,
 ⟨none,.p1 some,[.loc 0],(.set 7),[]⟩]
def VW:List AC:=[
 ⟨none,.p1 some,[.var 7],(.set 14),[]⟩]
def VX:List AC:=[
 ⟨none,.p1 some,[.var 6],(.set 5),[]⟩]
def VY:List AC:=[
 ⟨none,.r1 (fun s a=>AG Tryz.prog s 25 a),[.var 2],.push,[]⟩,
 ⟨none,.p1 AU,[.loc 0],.push,[]⟩,
 ⟨none,.p1 (fun x=>AB Tryz.prog 62 x 0),[.loc 0],.push,[]⟩,
 ⟨none,.r1 (fun s a=>AG Tryz.prog s 59 a),[.loc 0],.push,[]⟩,
 ⟨none,.p2 (AK Tryz.prog 59),[.loc 0,.var 0],.push,[]⟩,
 ⟨none,.r1 (fun s a=>AG Tryz.prog s 70 a),[.loc 0],.push,[]⟩,
 ⟨none,.mk (fun l=>match l with | []=>Bi Tryz.prog 70 | _=>none),[],(.set 8),[]⟩,
 ⟨none,.e (fun s=>Xs (fun a x=>Xu (Ar Tryz.prog s 70 a x))),[.var 8,.loc 0],.push,[]⟩]
def VZ:List AC:=[
 ⟨none,.p1 some,[.var 0],(.set 9),[]⟩]
def Va:List AC:=[
 ⟨none,.r1 (fun s a=>AG Tryz.prog s 103 a),[.var 3],.push,[]⟩,
 ⟨none,.r1 (fun s a=>AG Tryz.prog s 70 a),[.var 8],.push,[]⟩,
 ⟨none,.callv,[.loc 1,.var 0,.loc 0],.push,[]⟩,
 ⟨none,.p1 (fun x=>Xv x 0),[.loc 0],.push,[]⟩,
 ⟨none,.p1 (fun x=>Xv x 1),[.loc 1],.push,[]⟩,
 ⟨none,.p1 some,[.loc 1],(.set 10),[]⟩,
 ⟨none,.p1 some,[.loc 0],(.set 11),[]⟩]
def Na:List AC:=[
 ⟨none,.p1 some,[.var 11],(.set 15),[]⟩]
def Vb:List AC:=[
 ⟨none,.p1 some,[.var 10],(.set 9),[]⟩]
def QL:List AC:=[
 ⟨none,.p1 (fun x=>AB Tryz.prog 70 x 2),[.var 8],.push,[]⟩,
 ⟨none,.r1 (fun s a=>AG Tryz.prog s 3 a),[.loc 0],.push,[]⟩,
 ⟨none,.p2 (AO Tryz.prog .gtr 3),[(.loc 0),(.const (.int .i64 (0)))],(.set 16),[]⟩]
def QF:List AC:=[
 ⟨none,.p1 some,[(.const (.slice none 0 (some 0)))],(.set 12),[]⟩]
def QG:List AC:=[
 ⟨none,.p1 (fun x=>AB Tryz.prog 70 x 0),[.var 8],.push,[]⟩,
 ⟨none,.p1 (fun x=>AB Tryz.prog 65 x 2),[.loc 0],.push,[]⟩,
 ⟨none,.p1 (fun x=>AB Tryz.prog 70 x 2),[.var 8],.push,[]⟩,
 ⟨none,.r1 (fun s a=>AG Tryz.prog s 3 a),[.loc 0],.push,[]⟩,
 ⟨none,.r (Ay Tryz.prog 44 false true false),[.loc 2,.loc 0],(.set 17),[]⟩,
 ⟨none,.r (fun s l=>match l with | [x]=>BT Tryz.prog s 27 x | _=>none),[.var 17],(.set 18),[]⟩,
 ⟨none,.p1 some,[(.const (.int .i64 (0)))],(.set 19),[]⟩]
def MO:List AC:=[
 ⟨none,.p2 (AO Tryz.prog .lss 3),[.var 19,.var 18],(.set 20),[]⟩]
def QH:List AC:=[
 ⟨none,.p2 (AK Tryz.prog 27),[.var 17,.var 19],.push,[]⟩,
 ⟨none,.r1 (fun s a=>AG Tryz.prog s 3 a),[.loc 0],.push,[]⟩,
 ⟨none,.p1 some,[.loc 0],(.set 13),[]⟩]
def QI:List AC:=[
 ⟨none,.p1 some,[.var 12],.push,[]⟩,
 ⟨none,.r1 (fun s a=>AG Tryz.prog s 31 a),[.var 4],.push,[]⟩,
 ⟨none,.callv,[.loc 0,.var 13],.push,[]⟩,
 ⟨none,.mk (fun l=>(Ae Tryz.prog 27 1 (zipIdx [0] l)).bind fun r=>some (r,.slice 1)),[.loc 0],.push,[]⟩,
 ⟨none,.e (fun s l=>BC Tryz.prog s [27,27] l),[.loc 3,.loc 0],.push,[]⟩,
 ⟨none,.p1 some,[.loc 0],(.set 12),[]⟩]
def QJ:List AC:=[
 ⟨none,.p2 (AO Tryz.prog .add 3),[(.var 19),(.const (.int .i64 (1)))],.push,[]⟩,
 ⟨none,.p1 some,[.loc 0],(.set 19),[]⟩]
def H3:AZ:=(.seq (.ops MO) (.seq (.cond (.var 20)
 .skip
 (.exit 0)) (.seq (.block 1 (.seq (.ops QH) (.ops QI))) (.ops QJ))))
def QK:List AC:=[
 ⟨none,.r1 (fun s a=>AG Tryz.prog s 25 a),[.var 2],.push,[]⟩,
 ⟨none,.p1 (fun x=>AB Tryz.prog 70 x 0),[.var 8],.push,[]⟩,
 ⟨none,.p1 (fun x=>AB Tryz.prog 65 x 0),[.loc 0],.push,[]⟩,
 ⟨none,.r1 (fun s a=>AG Tryz.prog s 3 a),[.loc 0],.push,[]⟩,
 ⟨none,.p (fun l=>AR Tryz.prog 65 (zipIdx [0] l)),[.loc 0],.push,[]⟩,
 ⟨none,.p (fun l=>AR Tryz.prog 43 (zipIdx [] l)),[],.push,[]⟩,
 ⟨none,.call 32,[.loc 5,.loc 1,.loc 0,.var 12],.push,[]⟩,
 ⟨none,.p1 some,[.loc 0],(.set 9),[]⟩]
def MP:List AC:=[
 ⟨none,.r1 (fun s a=>AG Tryz.prog s 68 a),[.var 1],.push,[]⟩,
 ⟨none,.e (fun s=>Xt (fun m k x=>Xu (Bz Tryz.prog s 68 m k x))),[.loc 0,.var 0,.var 9],.push,[]⟩]
def MQ:List AC:=[
 ⟨none,.p1 some,[.var 9],(.set 5),[]⟩]
def aU:Aq:=⟨5,21,(.seq (.ops VU) (.seq (.seq (.ops VV) (.seq (.ops VW) (.cond (.var 14)
 (.seq (.ops VX) .ret)
 .skip))) (.seq (.ops VY) (.seq (.ops VZ) (.seq (.seq (.ops Va) (.seq (.ops Na) (.cond (.var 15)
 (.ops Vb)
 (.seq (.ops QL) (.cond (.var 16)
 (.seq (.ops QF) (.seq (.seq (.ops QG) (.block 0 (.loop H3))) (.ops QK)))
 .skip))))) (.seq (.ops MP) (.seq (.ops MQ) .ret))))))),[((.var 5),none)]⟩
def U9:List AC:=[
 ⟨none,.p1 some,[(.const (.slice none 0 (some 0)))],(.set 2),[]⟩]
def VA:List AC:=[
 ⟨none,.call 10,[.var 0],.push,[]⟩,
 ⟨none,.p1 some,[.loc 0],(.set 3),[]⟩]
def VB:List AC:=[
 ⟨none,.call 43,[.var 1],.push,[]⟩,
 ⟨none,.p1 some,[.loc 0],(.set 4),[]⟩]
def VC:List AC:=[
 ⟨none,.p1 some,[.var 4],(.set 7),[]⟩,
 ⟨none,.r (fun s l=>match l with | [x]=>BT Tryz.prog s 27 x | _=>none),[.var 7],(.set 8),[]⟩,
 ⟨none,.p1 some,[(.const (.int .i64 (0)))],(.set 9),[]⟩]
def K3:List AC:=[
 ⟨none,.p2 (AO Tryz.prog .lss 3),[.var 9,.var 8],(.set 10),[]⟩]
def NU:List AC:=[
 ⟨none,.p2 (AK Tryz.prog 27),[.var 7,.var 9],.push,[]⟩,
 ⟨none,.r1 (fun s a=>AG Tryz.prog s 3 a),[.loc 0],.push,[]⟩,
 ⟨none,.p1 some,[.var 9],(.set 5),[]⟩,
 ⟨none,.p1 some,[.loc 0],(.set 6),[]⟩]
def NV:List AC:=[
 ⟨none,.p2 (AO Tryz.prog .lss 3),[(.var 6),(.const (.int .i64 (0)))],.push,[]⟩,
 ⟨(some ((.loc 0),false)),.p1 some,[.var 6],.push,[]⟩,
 ⟨(some ((.loc 1),false)),.p1 some,[.var 3],.push,[]⟩,
 ⟨(some ((.loc 2),false)),.p2 (AO Tryz.prog .geq 3),[.loc 1,.loc 0],.push,[]⟩,
 ⟨none,.p Rn,[(.loc 3),(.const (.bool true)),(.loc 0)],(.set 11),[]⟩]
def QA:List AC:=[
 ⟨none,.p (fun l=>AR Tryz.prog 43 (zipIdx [] l)),[],.push,[]⟩,
 ⟨none,.call 22,[.var 0,.loc 0],.push,[]⟩,
 ⟨none,.p2 (AK Tryz.prog 27),[.var 4,.var 5],.push,[]⟩,
 ⟨none,.e (fun s=>Xs (fun a x=>Xu (Ar Tryz.prog s 3 a x))),[.loc 0,.loc 1],.push,[]⟩]
def NW:List AC:=[
 ⟨none,.p2 (AO Tryz.prog .add 3),[(.var 9),(.const (.int .i64 (1)))],.push,[]⟩,
 ⟨none,.p1 some,[.loc 0],(.set 9),[]⟩]
def H0:AZ:=(.seq (.ops K3) (.seq (.cond (.var 10)
 .skip
 (.exit 0)) (.seq (.block 1 (.seq (.ops NU) (.seq (.ops NV) (.cond (.var 11)
 (.ops QA)
 .skip)))) (.ops NW))))
def P9:List AC:=[
 ⟨none,.p1 some,[.var 4],(.set 2),[]⟩]
def aO:Aq:=⟨2,12,(.seq (.ops U9) (.seq (.ops VA) (.seq (.ops VB) (.seq (.seq (.ops VC) (.block 0 (.loop H0))) (.seq (.ops P9) .ret))))),[((.var 2),none)]⟩
def VF:List AC:=[
 ⟨none,.mk (fun l=>match l with | []=>Bi Tryz.prog 70 | _=>none),[],(.set 2),[]⟩]
def VG:List AC:=[
 ⟨none,.p2 (AO Tryz.prog .eql 25),[(.var 0),(.const (.ptr none))],.push,[]⟩,
 ⟨none,.p1 some,[.loc 0],(.set 3),[]⟩]
def Y1:List AC:=[
 ⟨none,.p (fun l=>AR Tryz.prog 70 (zipIdx [] l)),[],.push,[]⟩,
 ⟨none,.e (fun s=>Xs (fun a x=>Xu (Ar Tryz.prog s 70 a x))),[.var 2,.loc 0],.push,[]⟩]
def VH:List AC:=[
 ⟨none,.p2 (AO Tryz.prog .lss 3),[(.var 1),(.const (.int .i64 (0)))],.push,[]⟩,
 ⟨(some ((.loc 0),false)),.p1 some,[.var 1],.push,[]⟩,
 ⟨(some ((.loc 1),false)),.p1 some,[.var 0],.push,[]⟩,
 ⟨(some ((.loc 2),false)),.p1 AU,[.loc 0],.push,[]⟩,
 ⟨(some ((.loc 3),false)),.p1 (fun x=>AB Tryz.prog 62 x 0),[.loc 0],.push,[]⟩,
 ⟨(some ((.loc 4),false)),.r1 (fun s a=>AG Tryz.prog s 59 a),[.loc 0],.push,[]⟩,
 ⟨(some ((.loc 5),false)),.r (fun s l=>match l with | [x]=>BT Tryz.prog s 59 x | _=>none),[.loc 0],.push,[]⟩,
 ⟨(some ((.loc 6),false)),.p2 (AO Tryz.prog .geq 3),[.loc 5,.loc 0],.push,[]⟩,
 ⟨none,.p Rn,[(.loc 7),(.const (.bool true)),(.loc 0)],.push,[]⟩,
 ⟨none,.p1 some,[.loc 0],(.set 4),[]⟩]
def Y2:List AC:=[
 ⟨none,.call 60,[],.push,[]⟩,
 ⟨none,.e (fun s=>Xs (fun a x=>Xu (Ar Tryz.prog s 70 a x))),[.var 2,.loc 0],.push,[]⟩]
def VI:List AC:=[
 ⟨none,.p1 AU,[.var 0],.push,[]⟩,
 ⟨none,.p1 (fun x=>AB Tryz.prog 62 x 0),[.loc 0],.push,[]⟩,
 ⟨none,.r1 (fun s a=>AG Tryz.prog s 59 a),[.loc 0],.push,[]⟩,
 ⟨none,.p2 (AK Tryz.prog 59),[.loc 0,.var 1],.push,[]⟩,
 ⟨none,.r1 (fun s a=>AG Tryz.prog s 70 a),[.loc 0],.push,[]⟩,
 ⟨none,.e (fun s=>Xs (fun a x=>Xu (Ar Tryz.prog s 70 a x))),[.var 2,.loc 0],.push,[]⟩]
def aQ:Aq:=⟨2,5,(.seq (.ops VF) (.seq (.block 0 (.seq (.ops VG) (.cond (.var 3)
 (.seq (.ops Y1) .ret)
 (.seq (.ops VH) (.cond (.var 4)
 (.seq (.ops Y2) .ret)
 .skip))))) (.seq (.ops VI) .ret))),[((.var 2),some 70)]⟩
def NY:List AC:=[
 ⟨none,.mk (fun l=>match l with | [v]=>DH 70 v | _=>none),[.var 1],(.set 4),[]⟩,
 ⟨none,.p1 some,[(.const (.int .i64 (0)))],(.set 5),[]⟩,
 ⟨none,.p1 some,[(.const (.bool false))],(.set 6),[]⟩]
def NZ:List AC:=[
 ⟨none,.r1 (fun s a=>AG Tryz.prog s 27 a),[.var 2],.push,[]⟩,
 ⟨none,.p2 (AK Tryz.prog 27),[(.loc 0),(.const (.int .i64 (1)))],.push,[]⟩,
 ⟨none,.r1 (fun s a=>AG Tryz.prog s 3 a),[.loc 0],.push,[]⟩,
 ⟨none,.p1 (fun x=>AB Tryz.prog 70 x 0),[.var 4],.push,[]⟩,
 ⟨none,.p1 (fun x=>AB Tryz.prog 65 x 0),[.loc 0],.push,[]⟩,
 ⟨none,.r1 (fun s a=>AG Tryz.prog s 3 a),[.loc 0],.push,[]⟩,
 ⟨none,.p2 (AO Tryz.prog .eql 3),[(.loc 0),(.const (.int .i64 (0)))],.push,[]⟩,
 ⟨(some ((.loc 0),true)),.p1 (fun x=>AB Tryz.prog 70 x 0),[.var 4],.push,[]⟩,
 ⟨(some ((.loc 1),true)),.p1 (fun x=>AB Tryz.prog 65 x 1),[.loc 0],.push,[]⟩,
 ⟨(some ((.loc 2),true)),.r1 (fun s a=>AG Tryz.prog s 3 a),[.loc 0],.push,[]⟩,
 ⟨(some ((.loc 3),true)),.r1 (fun s a=>AG Tryz.prog s 3 a),[.var 3],.push,[]⟩,
 ⟨(some ((.loc 4),true)),.p2 (AO Tryz.prog .eql 3),[.loc 1,.loc 0],.push,[]⟩,
 ⟨none,.p Rn,[(.loc 5),(.loc 0),(.const (.bool false))],.push,[]⟩,
 ⟨none,.p1 some,[.loc 10],(.set 5),[]⟩,
 ⟨none,.p1 some,[.loc 0],(.set 6),[]⟩]
def Zq:Aq:=⟨4,7,(.seq (.ops NY) (.seq (.ops NZ) .ret)),[((.var 5),none),((.var 6),none)]⟩
def VD:List AC:=[
 ⟨none,.mk (fun l=>match l with | [v]=>DH 68 v | _=>none),[.var 0],(.set 1),[]⟩,
 ⟨none,.p1 some,[(.const .nilFunc)],(.set 2),[]⟩]
def VE:List AC:=[
 ⟨none,.p (fun l=>some (.func 59 (l.take 0) (l.drop 0))),[.var 1],.push,[]⟩,
 ⟨none,.p1 some,[.loc 0],(.set 2),[]⟩]
def aP:Aq:=⟨1,3,(.seq (.ops VD) (.seq (.ops VE) .ret)),[((.var 2),none)]⟩
def VR:List AC:=[
 ⟨none,.p1 some,[(.const (.slice none 0 (some 0)))],(.set 1),[]⟩]
def VS:List AC:=[
 ⟨none,.p2 (AO Tryz.prog .eql 27),[(.var 0),(.const (.slice none 0 (some 0)))],(.set 2),[]⟩]
def Y3:List AC:=[
 ⟨none,.p1 some,[(.const (.slice none 0 (some 0)))],(.set 1),[]⟩]
def VT:List AC:=[
 ⟨none,.mk (fun l=>(Ae Tryz.prog 27 0 (zipIdx [] l)).bind fun r=>some (r,.slice 0)),[],.push,[]⟩,
 ⟨none,.e (fun s l=>BC Tryz.prog s [27,27] l),[.loc 0,.var 0],.push,[]⟩,
 ⟨none,.p1 some,[.loc 0],(.set 1),[]⟩]
def aT:Aq:=⟨1,3,(.seq (.ops VR) (.seq (.seq (.ops VS) (.cond (.var 2)
 (.seq (.ops Y3) .ret)
 .skip)) (.seq (.ops VT) .ret))),[((.var 1),none)]⟩
theorem W2:AP Tryz.prog 10=some Yq:=by kernel_rfl
theorem W3:AP Tryz.prog 11=some Yt:=by kernel_rfl
theorem W4:AP Tryz.prog 13=some aD:=by kernel_rfl
theorem W5:AP Tryz.prog 15=some aE:=by kernel_rfl
theorem W8:AP Tryz.prog 21=some aG:=by kernel_rfl
theorem W9:AP Tryz.prog 22=some aH:=by kernel_rfl
theorem XA:AP Tryz.prog 24=some aI:=by kernel_rfl
theorem XB:AP Tryz.prog 25=some aJ:=by kernel_rfl
theorem XC:AP Tryz.prog 27=some aK:=by kernel_rfl
theorem XD:AP Tryz.prog 28=some aL:=by kernel_rfl
theorem XE:AP Tryz.prog 32=some aM:=by kernel_rfl
theorem XF:AP Tryz.prog 33=some aN:=by kernel_rfl
theorem XN:AP Tryz.prog 56=some aU:=by kernel_rfl
theorem XG:AP Tryz.prog 34=some aO:=by kernel_rfl
theorem XI:AP Tryz.prog 39=some aQ:=by kernel_rfl
theorem XM:AP Tryz.prog 47=some Zq:=by kernel_rfl
theorem XH:AP Tryz.prog 38=some aP:=by kernel_rfl
theorem XL:AP Tryz.prog 43=some aT:=by kernel_rfl
end
end Go.Proofs.YtickdehehcmfbaaGreatDoor.Am
set_option linter.unusedVariables false
set_option linter.unusedSimpArgs false
namespace Go.Proofs.YtickdehehcmfbaaGreatDoor.Am
open Go Go.Proofs
noncomputable section
structure Ah(E:Be):Prop where
 P:E.P=Tryz.prog
 nat:∀ (f:FuncId) (xs:List AV) (s:AD),f ∉ [44,30,45,127,109,7,55,37]→E.nat f xs s=none
 tab:∀ (f:FuncId) (xs:List AV) (s:AD) (p:AV×AD),Gs f xs s=some p→E.nat f xs s=some p
theorem Ah.go{E:Be}(hE:Ah E){f:FuncId}{xs:List AV}{cf:Aq}{K:AV→AD→Prop}{s:AD}(hf:AP Tryz.prog f=some cf)(hne:f ∉ [44,30,45,127,109,7,55,37])(ha:xs.length=cf.na)(h:Qa E none cf.body (Ends Tryz.prog cf.results K) (Ql xs cf.nv) [] s):WF E f xs K s:=
 WF.body' (hE.nat f xs s hne) (by rw[hE.P];exact hf) ha (by rw[hE.P];exact h)
theorem WF.native{E:Be}{f:FuncId}{xs:List AV}{K:AV→AD→Prop}{s s':AD}{v:AV}(h:E.nat f xs s=some (v,s'))(k:K v s'):WF E f xs K s:=by
 refine⟨1,(v,s'),?_,k⟩
 show Fd E _ f xs s=_
 unfold Fd
 rw[h]
def BG(S:List Tm)(t:Tm)(m:Nat):List AV:=BD S t++t.cells++[iv (t.kids.length:Int),iv (t.sz:Int),.map (some m)]
theorem Oc:∀a,a<13→(Ej.getD a ([],Tm.nullC)).2.length=7:=by decide
theorem Dc{t:Tm}(h:t.ok):t.cells.length=7:=by
 cases t<;>first | rfl | exact Oc _ h
theorem Dz{S:List Tm}{t:Tm}{m:Nat}(h:t.ok):(BG S t m).length=16:=by
 simp[BG,BD,Dc h]
def Dp(S:List Tm):List Tm→List Nat→List AV
 | t::l,m::vm=>BG S t m++Dp S l vm
 | _,_=>[]
theorem FT{S:List Tm}{u:Tm}{m:Nat}:∀ (l:List Tm)(vm:List Nat),l.length=vm.length→(∀t∈l,∀k∈t.kids,k∈S)→(∀k∈u.kids,k∈S) →
  Dp (S++[u]) (l++[u]) (vm++[m])=Dp S l vm++BG S u m
 | [],[],_,_,hu=>by simp only[am,Dp,BG,Ck [u] hu,List.append_nil,am]
 | t::l,n::vm,h,hl,hu=>by
  simp only[ap,Dp,bj]
  rw[FT l vm (by simpa using h) (fun x hx=>hl x (bI _ hx)) hu]
  simp only[BG,Ck [u] (hl t bH),bj]
theorem H8{S:List Tm}:∀ {l:List Tm}{vm:List Nat},vm.length=l.length→(∀t∈l,t.ok)→(Dp S l vm).length=l.length * 16
 | [],[],_,_=>rfl
 | t::l,m::vm,h,ho=>by
  simp only[Dp,bV,ao,Dz (ho t bH)]
  rw[H8 (by simpa using h) (fun x hx=>ho x (bI _ hx))]
  omega
theorem JR{S:List Tm}:∀ {l:List Tm}{vm:List Nat},vm.length=l.length→(∀t∈l,t.ok)→∀ {i:Nat}{t:Tm}{m:Nat},l[i]? = some t→vm[i]? = some m→∀j,j<16→(Dp S l vm)[i * 16+j]? = (BG S t m)[j]?
 | [],[],_,_,i,t,m,h,_,_,_=>by simp at h
 | t::l,m::vm,hl,ho,i,t',m',h,k,j,hj=>by
  have hlen:=Dz (S:=S) (m:=m) (ho t bH)
  simp only[Dp]
  cases i with
  | zero =>
   simp at h k
   subst h;subst k
   rw[bP (by omega)]
   congr 1;omega
  | succ i =>
   rw[bS (by omega),hlen,show(i+1) * 16+j - 16=i * 16+j from by omega]
   exact JR (by simpa using hl) (fun x hx=>ho x (bI _ hx)) (by simpa using h) (by simpa using k) j hj
def Gc(s:AD)(m:Nat)(t:Tm):Prop:=∃ks:List Int,s.heap.get m=some (.map 3 (A4 ks))∧ks.Nodup∧(∀x,x∈ks↔t.has x=true)∧ks.length≤100000
structure ED(s:AD)(p:Nat)(S:List Tm)(O:List Nat)(tv:AV)(fi:Nat)(vm OT:List Nat):Prop where
 obj:s.heap.get p=some (R 62 0 false [tv,.map (some fi)])
 buf:E8 70 16 s tv S.length (Dp S S vm) OT
 fnd:s.heap.get fi=some (.map 65 (CO S))
 vml:vm.length=S.length
 vars:∀ (i:Nat) (t:Tm) (m:Nat),S[i]? = some t→vm[i]? = some m→Gc s m t∧m<s.next∧m ∉ p::fi::OT
 eq:O=p::fi::(OT++vm)
 plt:p<s.next
 flt:fi<s.next
 pf:p≠fi
 pO:p ∉ OT
 fO:fi ∉ OT
structure AS(s:AD)(p:Nat)(S:List Tm)(O:List Nat):Prop where
 ok:I0 S
 small:S.length≤100000
 ex:∃tv fi vm OT,ED s p S O tv fi vm OT
def Bu(O:List Nat)(s s':AD):Prop:=s.next≤s'.next∧∀j,j<s.next→j ∉ O→s'.heap.get j=s.heap.get j
theorem Bu.refl(O:List Nat)(s:AD):Bu O s s:=⟨aj _,fun _ _ _=>rfl⟩
def AT(O O':List Nat)(s:AD):Prop:=∀j∈O',j∈O∨s.next≤j
theorem AT.refl(O:List Nat)(s:AD):AT O O s:=fun _ h=>.inl h
theorem Bu.trans{O O':List Nat}{s s1 s2:AD}(h:Bu O s s1)(k:Bu O' s1 s2)(hO:AT O O' s):Bu O s s2:=
 ⟨bM h.1 k.1,fun j hj hn=>(k.2 j (bG hj h.1) (fun hm=>(hO j hm).elim hn (fun hl=>by omega))).trans (h.2 j hj hn)⟩
theorem AT.trans{O O1 O2:List Nat}{s s1:AD}(h:AT O O1 s)(k:AT O1 O2 s1)(hn:s.next≤s1.next):AT O O2 s:=fun j hj =>
 (k j hj).elim (h j) (fun hl=>.inr (bM hn hl))
theorem Gc.frame{s s':AD}{m:Nat}{t:Tm}(h:Gc s m t)(e:s'.heap.get m=s.heap.get m):Gc s' m t:=by
 obtain⟨ks,h1,h2⟩:=h
 exact⟨ks,by rw[e];exact h1,h2⟩
theorem ED.lt      {s : AD}  {p : Nat} {S : List Tm} {O : List Nat} {tv : AV} {fi : Nat} {vm OT : List Nat} (h : ED      s p S O tv fi vm OT) : ∀ j ∈ O, j < s.next := by
  intro j hj
  rw[h.eq]at hj
  rcases bT.1 hj with rfl | hj
  · exact h.plt
  · rcases bT.1            hj with rfl | hj
    · exact h.flt
    · rcases List.mem_append.1 hj with hj | hj
      · exact h.buf.lt j hj
      · obtain⟨i,hi,he⟩:=List.mem_iff_getElem.1 hj
        have hiS:i<S.length:=by rw[← h.vml];exact hi
        exact(h.vars i S[i] j (bD hiS) (by rw[← he];exact bD hi)).2.1
theorem AS.lt{s:AD}{p:Nat}{S:List Tm}{O:List Nat}(h:AS s p S O):∀j∈O,j<s.next:=let ⟨_,_,_,_,h⟩:=h.ex;h.lt
theorem AS.frame{s s':AD}{p:Nat}{S:List Tm}{O:List Nat}(h:AS s p S O)(hn:s.next≤s'.next)(k:∀j∈O,s'.heap.get j=s.heap.get j):AS s' p S O:=by
 obtain⟨tv,fi,vm,OT,e⟩:=h.ex
 have hp:p∈O:=by rw[e.eq];simp
 have hf:fi∈O:=by rw[e.eq];simp
 have hT:∀j∈OT,j∈O:=fun j hj=>by rw[e.eq];simp[hj]
 have hv:∀j∈vm,j∈O:=fun j hj=>by rw[e.eq];simp[hj]
 refine⟨h.ok,h.small,tv,fi,vm,OT,?_,?_,?_,e.vml,?_,e.eq,bG e.plt hn,bG e.flt hn,e.pf,e.pO,e.fO⟩
 ·rw[k p hp];exact e.obj
 ·exact e.buf.frame hn fun j hj=>k j (hT j hj)
 ·rw[k fi hf];exact e.fnd
 ·intro i t m hi hm
  obtain⟨k1,k2,k3⟩:=e.vars i t m hi hm
  exact⟨k1.frame (k m (hv m (bO hm))),bG k2 hn,k3⟩
theorem AS.old{s s':AD}{p:Nat}{S:List Tm}{O:List Nat}(h:AS s p S O)(k:BK s.next s s'):AS s' p S O:=
 h.frame k.1 fun j hj=>k.2 j (h.lt j hj)
section
variable{s:AD}{p:Nat}{S:List Tm}{O:List Nat}{tv:AV}{fi:Nat}{vm OT:List Nat}
theorem ED.entry      (h : ED      s p S O tv fi vm OT) (hs : I0  S) {i : Nat} {t : Tm} (hi : S[i]? = some t) :
    ∃m j r,vm[i]? = some m∧tv=.slice (some (j,0)) S.length none∧j∈O∧s.heap.get j=some (.row r)∧BB (some (.row r)) (i * 16) 16=some (BG S t m)∧∀k,k<16→Cv (some (.row r)) (i * 16+k)=(BG S t m)[k]? := by
  have hil:i<S.length:=by
    rcases bE i S.length with h' | h'
    · exact h'
    · rw[bJ h']at hi;cases hi
  have him:i<vm.length:=by rw[h.vml];exact hil
  have hm:vm[i]? = some vm[i]:=bD (by rw[h.vml];exact hil)
  have hlen:=H8 (S:=S) h.vml hs.ok
  have hat:=JR (S:=S) h.vml hs.ok hi hm
  have hel:=Dz (S:=S) (m:=vm[i]) (hs.ok t (bO hi))
  rcases h.buf.row with⟨_,h0,_⟩ | ⟨j,r,h1,h2,h3,h4⟩
  · omega
  · refine ⟨vm[i], j, r, hm, h1, by rw [h.eq]; simp [h2], h3, ?_, fun k hk => ?_⟩
    · rw[FD h4 (by rw[hlen];omega)]
      congr 1
      apply List.ext_getElem?
      intro k
      by_cases hk:k<16
      · rw[b3 hk,b4]
        exact hat k hk
      · rw[bJ (by simp;omega),bJ (by omega)]
    · have hk2:(BG S t vm[i])[k]? = some (BG S t vm[i])[k]:=bD (by omega)
      rw[hk2]
      exact X5 h4 (by rw[hat k hk];exact hk2)
theorem Fl{α:Type}:∀ {l m:List α},l.Nodup→(∀x∈l,x∈m)→l.length≤m.length
 | [],_,_,_=>bL _
 | a::l,m,hn,h=>by
  obtain⟨m1,m2,rfl⟩:=List.append_of_mem (h a bH)
  simp only[bk]at hn
  have:=Fl (m:=m1++m2) hn.2 fun x hx=>by
   have:=h x (bI _ hx)
   simp only[List.mem_append,bT]at this ⊢
   rcases this with h' | h' | h'
   ·exact .inl h'
   ·subst h';exact absurd hx hn.1
   ·exact .inr h'
  simp at this ⊢;omega
theorem FC{S:List Tm}(hs:I0 S){x:Int}:∀ (t:Tm),t∈S→t.has x=true→Tm.var x∈S
 | .var i,ht,h=>by simp[Tm.has]at h;subst h;exact ht
 | .bnd _,_,h=>by cases h
 | .con _,_,h=>by cases h
 | .sel d k,ht,h=>by
  simp only[Tm.has,Bool.or_eq_true]at h
  rcases h with h | h
  ·exact FC hs d (hs.kid ht (by simp[Tm.kids])).1 h
  ·exact FC hs k (hs.kid ht (by simp[Tm.kids])).1 h
 | .upd d k a,ht,h=>by
  simp only[Tm.has,Bool.or_eq_true]at h
  rcases h with(h | h) | h
  ·exact FC hs d (hs.kid ht (by simp[Tm.kids])).1 h
  ·exact FC hs k (hs.kid ht (by simp[Tm.kids])).1 h
  ·exact FC hs a (hs.kid ht (by simp[Tm.kids])).1 h
theorem Sz{S:List Tm}(hs:I0 S){t:Tm}(ht:t∈S){ks:List Int}(hn:ks.Nodup)(hk:∀x∈ks,t.has x=true):ks.length≤S.length:=by
 have hsub:∀u∈ks.map Tm.var,u∈S:=fun u hu=>by
  obtain⟨x,hx,rfl⟩:=List.mem_map.1 hu
  exact FC hs t ht (hk x hx)
 have hnd:(ks.map Tm.var).Nodup:=by
  rw[List.Nodup,List.pairwise_map]
  exact hn.imp fun h e=>h (by injection e)
 have:=Fl hnd hsub
 simpa using this
end
def push(S:List Tm)(u:Tm):List Tm:=if u∈S then S else S++[u]
def E0(S:List Tm)(l:List Tm):List AV:=l.map fun t=>iv (ix S t:Int)
def BY(s:AD)(S:List Tm)(l:List Tm)(v:AV):Prop:=
 (l=[]∧v=.slice none 0 (some 0))∨∃j q cap,v=.slice (some (j,q)) l.length cap∧0<l.length∧j<s.next∧BB (s.heap.get j) q l.length=some (E0 S l)
theorem LS{o:Option Ac}{q n:Nat}{cs:List AV}(h:BB o q n=some cs){k:Nat}(hk:k<n):Cv o (q+k)=cs[k]? := by
 unfold BB at h
 simp only[ar]at h
 obtain⟨r,h1,h2⟩:=h
 obtain⟨h3,h4⟩:=AA h2
 have h3:q+n≤r.n:=by simpa[bF]using h3
 unfold Cv
 rw[h1,Option.bind_some,Pn (show q+k<r.n by omega)]
 exact AI.take_get h4 k hk
theorem Mj{o:Option Ac}{q:Nat}{S l:List Tm}(h:BB o q l.length=some (E0 S l)){k:Nat}{t:Tm}(hk:l[k]? = some t):Cv o (q+k)=some (iv (ix S t:Int)):=by
 have hlt:k<l.length:=by
  rcases bE k l.length with h' | h'
  ·exact h'
  ·rw[bJ h']at hk;cases hk
 rw[LS h hlt,E0,bh,hk];rfl
theorem Tz(s:AD)(i o:Nat):Ay Tryz.prog 44 false false false s [.ptr (some (i,o))]=some (.slice (some (i,o)) 3 (some 3)):=by
 have:Ay Tryz.prog 44 false false false s [.ptr (some (i,o))]=some (.slice (some (i,o+0 * 1)) 3 (some 3)):=by kernel_rfl
 exact this
theorem MV{s:AD}{i o:Nat}{S l:List Tm}{v:AV}(hn:l.length≤3)(h:BY s S l v):
  IA Tryz.prog s [27,27] [.slice (some (i,o)) 3 (some 3),v]=(Bq s i o (E0 S l)).bind fun s'=>some (iv (l.length:Int),s'):=by
 rcases h with⟨rfl,rfl⟩ | ⟨j,q,cap,rfl,h0,_,h⟩
 ·simp only[IA,Tryz.underlying27,Ea,Option.bind_some]
  rfl
 ·have hb:Nat.ble l.length 3=true:=Do hn
  simp only[IA,Tryz.underlying27,Ea,Option.bind_some,hb,cond_true,bR,FE,h]
  rfl
theorem PA{s:AD}{S l:List Tm}{v:AV}(h:BY s S l v)(s':AD):BT Tryz.prog s' 27 v=some (iv (l.length:Int)):=by
 rcases h with⟨rfl,rfl⟩ | ⟨j,q,cap,rfl,_⟩<;>exact Ad Tryz.underlying27
theorem EL(u:Tm):u.kids.length≤3:=by cases u<;>simp[Tm.kids]
theorem R8{s:AD}{S:List Tm}{u:Tm}{b:Nat}(hb:s.next=b):
  Bq (ext s [R 65 0 false [iv u.kind,iv u.id,iv 0,iv 0,iv 0,.str u.ktext],R 43 0 false u.cells]) (nid b 0) 2 (E0 S u.kids)=some (ext s [R 65 0 false (BD S u),R 43 0 false u.cells]):=by
 cases u<;>simp[Tm.kids,E0,BD,part,hb,Rz,Wa,Wb,Wc,Wd,We,Wf,Wg,Wh,Wi,Wj,Wl,Wm,Wn,Wp,Wq,Wr,Ws,Wt,Wu,Wv,Ww,Wx,Wy,Wz,Xa,Xb,Xc,Xd,Xe,Xf,Xg,Xh,Xi,Xj,Xk,Xl,Xm,Xn,Xo,Xp,Xq,Xr,ao,au,ap,am,aw,ay,List.getElem?_cons_zero,List.getElem?_cons_succ,aq,az,bA,bB,ak,Nat.reduceAdd,Nat.reduceLT,Nat.reduceLeDiff,decide_true,decide_false,Bool.true_and,Bool.and_true,bC,aj,Option.some.injEq,Xs,Xt,Xu,Xv]
set_option maxRecDepth 100000 in
theorem Ty(a b c d e:Int)(l:List Nat):CG Tryz.prog 65 (.agg [iv a,iv b,iv c,iv d,iv e,.str l]) =
  (A7 .i64 a && (A7 .i64 b && ((A7 .i64 c && (A7 .i64 d && (A7 .i64 e && true))) && (Nat.ble l.length 1099511627776 && true)))):=by kernel_rfl
theorem TV:∀a,a<13→(Ej.getD a ([],[])).1.length<200:=by decide
theorem Sp{S:List Tm}{u:Tm}(hS:S.length<100000)(hk:∀k∈u.kids,k∈S)(ho:u.ok):CG Tryz.prog 65 (.agg (BD S u))=true:=by
 have hp:∀k,i64 (part S u k):=fun k=>by
  unfold part
  cases e:u.kids[k]? with
  | none=>show i64 0;unfold i64;omega
  | some x=>have:=Eu (hk x (bO e));show i64 (ix S x:Int);unfold i64;omega
 have h1:i64 u.kind:=by cases u<;>(simp only[Tm.kind,i64];omega)
 have h2:i64 u.id:=by
  cases u with
  | var i=>exact ho
  | bnd i=>exact ho.2
  | con n=>show i64 0;unfold i64;omega
  | sel d k=>show i64 0;unfold i64;omega
  | upd d k a=>show i64 0;unfold i64;omega
 have h3:u.ktext.length≤1099511627776:=by
  cases u with
  | con n=>have:=TV n ho;show(Ej.getD n ([],[])).1.length≤_;omega
  | var i=>exact bL _
  | bnd i=>exact bL _
  | sel d k=>exact bL _
  | upd d k a=>exact bL _
 unfold BD
 rw[Ty,BR h1,BR h2,BR (hp 0),BR (hp 1),BR (hp 2),Do h3]
 rfl
theorem KY{s:AD}{fi:Nat}{S:List Tm}{u:Tm}(hf:s.heap.get fi=some (.map 65 (CO S)))(hs:I0 S)(hS:S.length<100000)(hk:∀k∈u.kids,k∈S)(ho:u.ok):
  Bx Tryz.prog s 60 (.map (some fi)) (.agg (BD S u)) true=some (.tuple [if u∈S then iv (ix S u:Int)else iv 0,.bool (decide (u∈S))]):=by
 unfold Bx
 simp only[Tryz.underlying60,Sp hS hk ho,Xa,EP,hf,DQ,Option.bind_some,IJ hs hk ho]
 by_cases hm:u∈S<;>simp[hm,ai]
theorem Kq{s:AD}{fi:Nat}{S:List Tm}{u:Tm}(hf:s.heap.get fi=some (.map 65 (CO S)))(hs:I0 S)(hS:S.length<100000)(hk:∀k∈u.kids,k∈S)(ho:u.ok)(hu:u ∉ S):
  Bz Tryz.prog s 60 (.map (some fi)) (.agg (BD S u)) (iv (S.length:Int))=some (setObj s fi (.map 65 (CO (S++[u])))):=by
 unfold Bz
 simp only[Tryz.underlying60,Sp hS hk ho,Xa,EP,hf,DQ,Option.bind_some,JA,IJ hs hk ho,if_neg hu]
 rw[IK hs hu hk]
theorem O5(xs:List AV)(s:AD):Gs 55 xs s=IB 3 s xs:=by kernel_rfl
theorem Oh{E:Be}(hE:Ah E){s:AD}{i j:Nat}{es fs es':List (AV×AV)}{K:AV→AD→Prop}(hij:i≠j)(h1:s.heap.get i=some (.map 3 es))(h2:s.heap.get j=some (.map 3 fs))(hl:es.length+fs.length≤1000000)(hp:Gv fs es=some es')
  (k:K (.tuple []) (setObj s i (.map 3 es'))):WF E 55 [.map (some i),.map (some j)] K s:=by
 refine WF.native (hE.tab _ _ _ (.tuple [],setObj s i (.map 3 es')) ?_) k
 rw[O5]
 have hb:Nat.beq i j=false:=AI.beq_no hij
 simp only[IB,hb,Bool.not_false,Xa,EP,h1,h2,DQ,Option.bind_some,Do hl,hp]
theorem Oy(a:Int):CD false (iv a) [iv 4097]=some (iv (min a 4097)):=by
 show AH true (some (iv (bif I2 4097 a then 4097 else a)))=_
 rw[B1]
 show some (iv _)=_
 by_cases h:(4097:Int)<a
 ·simp only[h,decide_true,cond_true];rw[Int.min_eq_right (by omega)]
 ·simp only[h,decide_false,cond_false];rw[Int.min_eq_left (by omega)]
theorem BY.at{s:AD}{S l:List Tm}{v:AV}(h:BY s S l v){k:Nat}{t:Tm}(hk:l[k]? = some t):∃j q cap,v=.slice (some (j,q)) l.length cap∧j<s.next∧Cv (s.heap.get j) (q+k)=some (iv (ix S t:Int)):=by
 rcases h with⟨rfl,rfl⟩ | ⟨j,q,cap,rfl,h0,h1,h2⟩
 ·simp at hk
 ·exact⟨j,q,cap,rfl,h1,Mj h2 hk⟩
def Z8(z:Nat):List Tm→Nat
 | []=>z
 | t::l=>Z8 (min (z+t.sz) 4097) l
theorem Ss(u:Tm):Z8 1 u.kids=u.sz:=by cases u<;>rfl
section
variable{E:Be}(hE:Ah E){s:AD}{p:Nat}{S:List Tm}{O:List Nat}{tv:AV}{fi:Nat}{vm OT:List Nat}(e:ED s p S O tv fi vm OT)(hS:I0 S){pv:AV}{us:List Tm}(hp:BY s S us pv)(h3:us.length≤3)(hin:∀t∈us,t∈S)
  (a1 a2 a4 a5 a6 a7 a8 a11 a12 k0 k1 k2 k3 k4 k5 c0 c1 c2 c3 c4 c5 c6:AV) (kb vb:Ac) {b:Nat} (hs:s.next=b)
include hE e hS hp h3 hin hs
theorem SN       {Q : Aw   → Prop} {marks : List Nat} : ∀ (l2 l1 : List Tm) (ks : List Int) (z : Nat) (a10 a16 : AV), us = l1 ++ l2 → ks.Nodup → ks.length ≤ 100000 + l1.length * 100000 → z ≤ 4097 →
    (∀ (ks':List Int) (b10 b15 b16:AV),ks'.Nodup→(∀x,x∈ks'↔x∈ks∨∃t∈l2,t.has x=true) →
      Ag 0 Q ⟨.exit 0,[.ptr (some (p,0)),a1,a2,pv,a4,a5,a6,a7,a8,.ptr (some (nid b 3,0)),b10,a11,a12,pv,iv (us.length:Int),b15,b16],marks,ext s [kb,vb,.map 3 (A4 ks'),R 70 0 false [k0,k1,k2,k3,k4,k5,c0,c1,c2,c3,c4,c5,c6,iv (us.length:Int),iv (Z8 z l2:Int),.map (some (nid b 2))]]⟩) →
    WC E none Gf.loop (Ag 0 Q) [.ptr (some (p,0)),a1,a2,pv,a4,a5,a6,a7,a8,.ptr (some (nid b 3,0)),a10,a11,a12,pv,iv (us.length:Int),iv (l1.length:Int),a16] marks
      (ext s [kb,vb,.map 3 (A4 ks),R 70 0 false [k0,k1,k2,k3,k4,k5,c0,c1,c2,c3,c4,c5,c6,iv (us.length:Int),iv (z:Int),.map (some (nid b 2))]]):=by
  intro l2
  induction l2 with
  | nil =>
    intro l1 ks z a10 a16 hus hn hl hz hq
    refine WC.loop' ?_
    have hlt:¬ ((l1.length:Int)<(us.length:Int)):=by rw[hus];simp
    simp only[Gf,P8,hlt,decide_false,Qa,Qb,Qc,Qd,Qe,Qf,Qg,Qh,Qi,Qj,Qk,Ql,Qm,Qn,true_and,and_true,Qo,Qp,Qq,Qr,Qs,Qt,Qu,Qv,Qw,Qx,Qy,Qz,Ra,Rb,Rc,Rd,Re,Rf,Rg,Rh,Ri,Rj,Rk,Rl,Rm,Ya,Yb,Yc,Rn,Ro,Xv,Yd,Ye,Rq,Rs,Rt,Ru,Rw,Rx,Ry]
    exact hq ks _ _ _ hn (fun x=>by simp)
  | cons t l2 ih =>
    intro l1 ks z a10 a16 hus hn hl hz hq
    refine WC.loop' ?_
    obtain⟨L,hL⟩:∃L,L=AZ.loop Gf:=⟨_,rfl⟩
    rw[← hL]
    have hlt:((l1.length:Int)<(us.length:Int)):=by rw[hus];simp;omega
    have hat:us[l1.length]? = some t:=by rw[hus];simp
    obtain⟨j,q,cap,rfl,hj,hpl⟩:=hp.at hat
    have htS:t∈S:=hin t (bO hat)
    obtain⟨m,jr,r,hvm,rfl,hjO,hjr,_,hle⟩:=e.entry hS (Cr htS)
    have hls:=hle 14 (by omega)
    have hlv:=hle 15 (by omega)
    rw[← hjr]at hls hlv
    have hc7:=Dc (hS.ok t htS)
    have es:(BG S t m)[14]? = some (iv (t.sz:Int)):=by simp[BG,BD,hc7,bS,bP]
    have ev:(BG S t m)[15]? = some (.map (some m)):=by simp[BG,BD,hc7,bS,bP]
    rw[es]at hls
    rw[ev]at hlv
    obtain⟨⟨mk,hm1,hm2,hm3,hm4⟩,hmb,hmO⟩:=e.vars _ _ _ (Cr htS) hvm
    have hpb:=e.plt
    have hobj:=e.obj
    have hjrb:=e.lt jr hjO
    rw[hs]at hj hjrb hmb hpb
    have hzz:=t.sz_pos
    have hix:=Eu htS
    have hadd:i64 ((z:Int)+(t.sz:Int)):=by unfold i64;omega
    have hadd1:i64 ((l1.length:Int)+1):=by unfold i64;omega
    have hl3:l1.length<us.length:=by omega
    simp only[Gf,P8,P2,P3,hlt,decide_true,Qa,Qb,Qc,Qd,Qe,Qf,Qg,Qh,Qi,Qj,Qk,Ql,Qm,Qn,true_and,and_true,Qo,Qp,Qq,Qr,Qs,Qt,Qu,Qv,Qw,Qx,Qy,Qz,Ra,Rb,Rc,Rd,Re,Rf,Rg,Rh,Ri,Rj,Rk,Rl,Rm,Ya,Yb,Yc,Rn,Ro,Xv,Yd,Ye,Rq,Rs,Rt,Ru,Rw,Rx,Ry,AY Tryz.underlying27 Ea hl3,AY Tryz.underlying59 Kn hix,C6,OQ,OP,Ea,Xz,Gl,hj,hjrb,hpb,hpl,hobj,hls,hs,bR,BI _ _ _ _ hadd,Oy,Rz,Wa,Wb,Wc,Wd,We,Wf,Wg,Wh,Wi,Wj,Wl,Wm,Wn,Wp,Wq,Wr,Ws,Wt,Wu,Wv,Ww,Wx,Wy,Wz,Xa,Xb,Xc,Xd,Xe,Xf,Xg,Xh,Xi,Xj,Xk,Xl,Xm,Xn,Xo,Xp,Xq,Xr,ao,au,ap,am,aw,ay,List.getElem?_cons_zero,List.getElem?_cons_succ,aq,az,bA,bB,ak,Nat.reduceAdd,Nat.reduceLT,Nat.reduceLeDiff,decide_true,decide_false,Bool.true_and,Bool.and_true,bC,aj,Option.some.injEq,Xs,Xt,Xu,Xv]
    have hmn:nid b 2≠m:=by rw[AF];omega
    simp only[P4,Qa,Qb,Qc,Qd,Qe,Qf,Qg,Qh,Qi,Qj,Qk,Ql,Qm,Qn,true_and,and_true,Qo,Qp,Qq,Qr,Qs,Qt,Qu,Qv,Qw,Qx,Qy,Qz,Ra,Rb,Rc,Rd,Re,Rf,Rg,Rh,Ri,Rj,Rk,Rl,Rm,Ya,Yb,Yc,Rn,Ro,Xv,Yd,Ye,Rq,Rs,Rt,Ru,Rw,Rx,Ry,AY Tryz.underlying59 Kn hix,OQ,OP,RR,Gl,hjrb,hpb,hobj,hlv,hs,Rz,Wa,Wb,Wc,Wd,We,Wf,Wg,Wh,Wi,Wj,Wl,Wm,Wn,Wp,Wq,Wr,Ws,Wt,Wu,Wv,Ww,Wx,Wy,Wz,Xa,Xb,Xc,Xd,Xe,Xf,Xg,Xh,Xi,Xj,Xk,Xl,Xm,Xn,Xo,Xp,Xq,Xr,ao,au,ap,am,aw,ay,List.getElem?_cons_zero,List.getElem?_cons_succ,aq,az,bA,bB,ak,Nat.reduceAdd,Nat.reduceLT,Nat.reduceLeDiff,decide_true,decide_false,Bool.true_and,Bool.and_true,bC,aj,Option.some.injEq,Xs,Xt,Xu,Xv]
    refine Oh hE hmn (by rw[Wg hs (by simp)];rfl) (by rw[Wh (by rw[hs];exact hmb)];exact hm1) ?_ (HT mk ks) ?_
    · simp only[A4,bX];omega
    have hzc:min ((z:Int)+(t.sz:Int)) 4097=((min (z+t.sz) 4097:Nat):Int):=by omega
    simp only[P5,Qa,Qb,Qc,Qd,Qe,Qf,Qg,Qh,Qi,Qj,Qk,Ql,Qm,Qn,true_and,and_true,Qo,Qp,Qq,Qr,Qs,Qt,Qu,Qv,Qw,Qx,Qy,Qz,Ra,Rb,Rc,Rd,Re,Rf,Rg,Rh,Ri,Rj,Rk,Rl,Rm,Ya,Yb,Yc,Rn,Ro,Xv,Yd,Ye,Rq,Rs,Rt,Ru,Rw,Rx,Ry,BI _ _ _ _ hadd1,hs,hzc,Rz,Wa,Wb,Wc,Wd,We,Wf,Wg,Wh,Wi,Wj,Wl,Wm,Wn,Wp,Wq,Wr,Ws,Wt,Wu,Wv,Ww,Wx,Wy,Wz,Xa,Xb,Xc,Xd,Xe,Xf,Xg,Xh,Xi,Xj,Xk,Xl,Xm,Xn,Xo,Xp,Xq,Xr,ao,au,ap,am,aw,ay,List.getElem?_cons_zero,List.getElem?_cons_succ,aq,az,bA,bB,ak,Nat.reduceAdd,Nat.reduceLT,Nat.reduceLeDiff,decide_true,decide_false,Bool.true_and,Bool.and_true,bC,aj,Option.some.injEq,Xs,Xt,Xu,Xv]
    have hlen:(l1++[t]).length=l1.length+1:=by simp
    have:=ih (l1++[t]) (mk.foldl Fg ks) (min (z+t.sz) 4097) (iv (ix S t:Int)) (.bool true) (by rw[hus];simp) (HF mk hn) ?_ (by omega) ?_
    · rw [hlen] at this
      rw[hL]
      exact this
    · have:=GK mk ks
      rw[hlen];omega
    · intro ks' b10 b15 b16 hn' hx
      refine hq ks' b10 b15 b16 hn' fun x=>?_
      rw[hx,Jc,hm3]
      constructor
      · rintro ((h | h) | ⟨u, h1, h2⟩)
        · exact .inl h
        · exact .inr ⟨t,bH,h⟩
        · exact .inr ⟨u,bI _ h1,h2⟩
      · rintro (h | ⟨u, h1, h2⟩)
        · exact .inl (.inl h)
        · rcases bT.1            h1 with rfl | h1
          · exact .inl (.inr h2)
          · exact .inr ⟨u,h1,h2⟩
end
set_option maxRecDepth 100000 in
theorem Pp(k0 k1 k2 k3 k4 k5 c0 c1 c2 c3 c4 c5 c6:AV)(n z:Int)(m:Nat):AR Tryz.prog 70 (zipIdx [0,1,2,3,4] [.agg [k0,k1,k2,k3,k4,k5],.agg [c0,c1,c2,c3,c4,c5,c6],iv n,iv z,.map (some m)]) =
  some (.agg [k0,k1,k2,k3,k4,k5,c0,c1,c2,c3,c4,c5,c6,iv n,iv z,.map (some m)]):=by kernel_rfl
theorem PF(k0 k1 k2 k3 k4 k5 c0 c1 c2 c3 c4 c5 c6 n z m:AV):Ae Tryz.prog 59 1 (zipIdx [0] [.agg [k0,k1,k2,k3,k4,k5,c0,c1,c2,c3,c4,c5,c6,n,z,m]]) =
  some (R 70 16 false [k0,k1,k2,k3,k4,k5,c0,c1,c2,c3,c4,c5,c6,n,z,m]):=by kernel_rfl
theorem Nx:C9 Tryz.prog 68=some 3:=by kernel_rfl
theorem TA:B2 Tryz.prog 70 16=true:=by kernel_rfl
theorem Ob:∀a,a<13→AX (Ej.getD a ([],Tm.nullC)).2=true:=by decide
theorem Tm.cells7{t:Tm}(h:t.ok):∃c0 c1 c2 c3 c4 c5 c6,t.cells=[c0,c1,c2,c3,c4,c5,c6]∧c0.isCell=true∧c1.isCell=true∧c2.isCell=true∧c3.isCell=true∧c4.isCell=true∧c5.isCell=true∧c6.isCell=true:=by
 have h7:=Dc h
 have ha:AX t.cells=true:=by
  cases t<;>first | rfl | exact Ob _ h
 match hc:t.cells,h7,ha with
 | [c0,c1,c2,c3,c4,c5,c6],_,ha =>
  simp only[AX,Bool.and_eq_true,and_true]at ha
  exact⟨_,_,_,_,_,_,_,rfl,ha⟩
section
variable{E:Be}{s:AD}{p:Nat}{S:List Tm}{O:List Nat}{tv:AV}{fi:Nat}{vm OT:List Nat}(e:ED s p S O tv fi vm OT)(hS:I0 S)(hsm:S.length<100000)
  {u:Tm} (hk:∀k∈u.kids,k∈S) (ho:u.ok) (hu:u ∉ S) (a1 a2 pv a5 a6 a7 a8 a10 a11 a12 a13 a14 a15 a16:AV) (vb:Ac) {b:Nat} (hs:s.next=b) {ks:List Int} (hkn:ks.Nodup) (hkx:∀x,x∈ks↔u.has x=true)
include e hS hsm hk ho hu hs hkn hkx
theorem Tq      {K : AV → AD  → Prop} (hK : ∀ s' O', AS      s' p (S ++ [u]) O' → Bu  O s s' → AT   O O' s → K (iv (S.length : Int)) s') :
    Qb E KC (fun v s'=>Qb E KD (fun v s'=>Qb E KE (fun v s'=>I3 (Bs s' []) fun s'=>K (Hb v 6) s') [] v s') [] v s') []
      [.ptr (some (p,0)),a1,a2,pv,.ptr (some (nid b 0,0)),a5,a6,a7,a8,.ptr (some (nid b 3,0)),a10,a11,a12,a13,a14,a15,a16]
      (ext s [R 65 0 false (BD S u),vb,.map 3 (A4 ks),R 70 0 false (BG S u (nid b 2))]):=by
  obtain⟨c0,c1,c2,c3,c4,c5,c6,hc,d0,d1,d2,d3,d4,d5,d6⟩:=u.cells7 ho
  have hpb:=e.plt
  have hfb:=e.flt
  have hobj:=e.obj
  rw[hs]at hpb hfb
  have hbuf:=e.buf.frame (s':=ext s [R 65 0 false (BD S u),vb,.map 3 (A4 ks),R 70 0 false (BG S u (nid b 2)),R 70 16 false (BG S u (nid b 2))]) (by rw[Wm,AF];omega) (fun j hj=>Wh (e.buf.lt j hj))
  have hsrc:CT Tryz.prog (ext s [R 65 0 false (BD S u),vb,.map 3 (A4 ks),R 70 0 false (BG S u (nid b 2)),R 70 16 false (BG S u (nid b 2))]) 70 16 (.slice (some (nid b 4,0)) 1 (some 1))=some (1,BG S u (nid b 2)):=by
    show(JC _ (nid b 4) 0 1 16).bind _=_
    rw[G5 (l:=BG S u (nid b 2)) (by rw[FE,Wg hs (by simp)];show BB (some (R 70 16 false (BG S u (nid b 2)))) _ _=_;rw[Wj (by rw[Dz ho];exact aj _),aq,bY (by rw[Dz ho];exact aj _)])]
    rfl
  have hac:AX (BG S u (nid b 2))=true:=by
    simp only[BG,BD,hc,ap,am,AX,d0,d1,d2,d3,d4,d5,d6,Xl,Xm,Xo,Bool.and_self]
  obtain⟨v',s2,O2,happ,hb2,hn2,hf2,hO2,hsl⟩:=hbuf.append (xt:=59) Tryz.underlying59 Kn Zy (by omega) (by kernel_rfl) TA (by omega) hsrc (by rw[Dz ho]) hac (by omega) (by omega)
  have hv2:∃a c,v'=.slice a (S.length+1) c:=let ⟨a,c,h,_⟩:=hb2.slice;⟨a,c,h⟩
  obtain⟨av,cv,rfl⟩:=hv2
  have hnx:(ext s [R 65 0 false (BD S u),vb,.map 3 (A4 ks),R 70 0 false (BG S u (nid b 2)),R 70 16 false (BG S u (nid b 2))]).next=b+5:=by rw[Wm,AF,hs];rfl
  rw[hnx]at hn2 hf2 hO2 hsl
  have hOT:∀j∈OT,j<b:=fun j hj=>by have:=e.buf.lt j hj;omega
  have g0:s2.heap.get (nid b 0)=some (R 65 0 false (BD S u)):=by
    rw[hf2 _ (by rw[AF];omega) (fun h=>by have:=hOT _ h;rw[AF]at this;omega),Wg hs (by simp)];rfl
  have g2:s2.heap.get (nid b 2)=some (.map 3 (A4 ks)):=by
    rw[hf2 _ (by rw[AF];omega) (fun h=>by have:=hOT _ h;rw[AF]at this;omega),Wg hs (by simp)];rfl
  have gold:∀j,j<b→j ∉ OT→s2.heap.get j=s.heap.get j:=fun j h1 h2=>by
    rw[hf2 j (by omega) h2,Wh (by omega)]
  have gp:s2.heap.get p=some (R 62 0 false [tv,.map (some fi)]):=by rw[gold p hpb e.pO];exact hobj
  have gf:s2.heap.get fi=some (.map 65 (CO S)):=by rw[gold fi hfb e.fO];exact e.fnd
  have hu2:BG S u (nid b 2)=[iv u.kind,iv u.id,iv (part S u 0),iv (part S u 1),iv (part S u 2),.str u.ktext,c0,c1,c2,c3,c4,c5,c6,iv (u.kids.length:Int),iv (u.sz:Int),.map (some (nid b 2))]:=by
    simp only[BG,BD,hc,ap,am]
  rw[hu2]at happ ⊢
  have hfp:fi≠p:=Ne.symm e.pf
  have hp0:nid b 0≠p:=by rw[AF];omega
  have hup:=Kq (s:=setObj s2 p (R 62 0 false [.slice av (S.length+1) cv,.map (some fi)])) (fi:=fi) (u:=u) (by rw[Wr _ hfp];exact gf) hS hsm hk ho hu
  have hsub:i64 (((S.length+1:Nat):Int) - 1):=by unfold i64;omega
  have hsub2:((S.length+1:Nat):Int) - 1=(S.length:Int):=by omega
  have g0:s2.heap.get (nid b 0)=some (R 65 0 false [iv u.kind,iv u.id,iv (part S u 0),iv (part S u 1),iv (part S u 2),.str u.ktext]):=g0
  simp only[BD]at hup happ
  simp only[BD,KC,KD,KE,Qa,Qb,Qc,Qd,Qe,Qf,Qg,Qh,Qi,Qj,Qk,Ql,Qm,Qn,true_and,and_true,Qo,Qp,Qq,Qr,Qs,Qt,Qu,Qv,Qw,Qx,Qy,Qz,Ra,Rb,Rc,Rd,Re,Rf,Rg,Rh,Ri,Rj,Rk,Rl,Rm,Ya,Yb,Yc,Rn,Ro,Xv,Yd,Ye,Rq,Rs,Rt,Ru,Rw,Rx,Ry,Gl,RO,hpb,hobj,hs,OP,Ym,WU,YM,Z6,TE,Kn,PF,happ,gp,hfp,hp0,g0,Ad Tryz.underlying59,Db _ _ _ _ hsub,hsub2,hup,Ne.symm hfp,ne_eq,not_false_eq_true,not_true,Rz,Wa,Wb,Wc,Wd,We,Wf,Wg,Wh,Wi,Wj,Wl,Wm,Wn,Wp,Wq,Wr,Ws,Wt,Wu,Wv,Ww,Wx,Wy,Wz,Xa,Xb,Xc,Xd,Xe,Xf,Xg,Xh,Xi,Xj,Xk,Xl,Xm,Xn,Xo,Xp,Xq,Xr,ao,au,ap,am,aw,ay,List.getElem?_cons_zero,List.getElem?_cons_succ,aq,az,bA,bB,ak,Nat.reduceAdd,Nat.reduceLT,Nat.reduceLeDiff,decide_true,decide_false,Bool.true_and,Bool.and_true,bC,aj,Option.some.injEq,Xs,Xt,Xu,Xv]
  have hok:=hS.push hu hk ho
  have hlen:(S++[u]).length=S.length+1:=by simp
  have hin:∀j,j∈O↔j=p∨j=fi∨j∈OT∨j∈vm:=fun j=>by rw[e.eq];simp
  have hpO2:p ∉ O2:=fun h=>(hO2 p h).elim e.pO (fun h=>by omega)
  have hfO2:fi ∉ O2:=fun h=>(hO2 fi h).elim e.fO (fun h=>by omega)
  have hget:∀j,j≠p→j≠fi→(setObj (setObj s2 p (R 62 0 false [.slice av (S.length+1) cv,.map (some fi)])) fi (.map 65 (CO (S++[u])))).heap.get j=s2.heap.get j:=fun j h1 h2=>by
    rw[Wr _ h2,Wr _ h1]
  refine hK _ (p::fi::(O2++(vm++[nid b 2]))) ⟨hok,by omega,.slice av (S.length+1) cv,fi,vm++[nid b 2],O2,?_,?_,Wq _ _ _,by rw[bV,e.vml,hlen];rfl,?_,rfl,?_,?_,e.pf,hpO2,hfO2⟩ ⟨?_,?_⟩ ?_
  · rw[Wr _ (Ne.symm hfp),Wq]
  · rw [hlen, FT            S vm e.vml.symm (fun t ht k hkk => (hS.kid ht hkk).1) hk]
    refine hb2.frame (aj _) fun j hj=>hget j (fun h=>hpO2 (h▸hj)) (fun h=>hfO2 (h▸hj))
  · intro i t m hi hm
    have hnx2:(setObj (setObj s2 p (R 62 0 false [.slice av (S.length+1) cv,.map (some fi)])) fi (.map 65 (CO (S++[u])))).next=b+6:=by rw[Wp,Wp,hn2]
    rw[hnx2]
    rcases bE i S.length with hl | hl
    · rw [bP                        hl] at hi
      rw[bP (by rw[e.vml];exact hl)]at hm
      obtain⟨h1,h2,h3⟩:=e.vars i t m hi hm
      have hmp:m≠p:=fun h=>h3 (by simp[h])
      have hmf:m≠fi:=fun h=>h3 (by simp[h])
      have hmT:m ∉ OT:=fun h=>h3 (by simp[h])
      refine⟨h1.frame (by rw[hget m hmp hmf,gold m (by omega) hmT]),by omega,fun h=>?_⟩
      rcases bT.1 h with h | h
      · exact hmp h
      · rcases bT.1            h with h | h
        · exact hmf h
        · rcases hO2 m h with h | h
          · exact hmT h
          · omega
    · have hi2:i<(S++[u]).length:=by
        rcases bE i (S++[u]).length with h' | h'
        · exact h'
        · rw[bJ h']at hi;cases hi
      have hi3:i=S.length:=by omega
      subst hi3
      have ht:t=u:=by simpa using hi.symm
      rw[bS (by rw[e.vml];exact aj _),e.vml,Nat.sub_self]at hm
      have hm:m=nid b 2:=by simpa using hm.symm
      subst ht;subst hm
      have hlt2:nid b 2<b+6∧b≤nid b 2∧nid b 2<b+5:=by rw[AF];omega
      refine⟨⟨ks,by rw[hget _ (by omega) (by omega)];exact g2,hkn,hkx,?_⟩,hlt2.1,fun h=>?_⟩
      · have:=Sz hok (bz _ (List.mem_singleton.2 rfl)) hkn (fun x hx=>(hkx x).1 hx)
        omega
      · rcases bT.1            h with h | h
        · omega
        · rcases bT.1            h with h | h
          · omega
          · rcases hO2 _ h with h | h
            · have:=hOT _ h;omega
            · omega
  · rw[Wp,Wp];omega
  · rw[Wp,Wp];omega
  · rw[Wp,Wp];omega
  · intro j hj hjO
    rw[hin]at hjO
    rw[hget j (fun h=>hjO (.inl h)) (fun h=>hjO (.inr (.inl h))),gold j (by omega) (fun h=>hjO (.inr (.inr (.inl h))))]
  · intro j hj
    rw[hin]
    rcases bT.1 hj with h | h
    · exact .inl (.inl h)
    · rcases bT.1            h with h | h
      · exact .inl (.inr (.inl h))
      · rcases List.mem_append.1 h with h | h
        · rcases hO2 _ h with h | h
          · exact .inl (.inr (.inr (.inl h)))
          · exact .inr (by omega)
        · rcases List.mem_append.1 h with h | h
          · exact .inl (.inr (.inr (.inr h)))
          · have h:=List.mem_singleton.1 h
            refine .inr ?_
            rw[h,AF];omega
end
end
end Go.Proofs.YtickdehehcmfbaaGreatDoor.Am
