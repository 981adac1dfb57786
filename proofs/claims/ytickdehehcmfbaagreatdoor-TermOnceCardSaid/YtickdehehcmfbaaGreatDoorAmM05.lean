/- The constants of layer 14's laws, and closed calls on them, run by the kernel (printed by dev/ttab.py); conditions: none. -/
import Derived.Test.YtickdehehcmfbaaGreatDoorAmM04
import Derived.Test.YtickdehehcmfbaaGreatDoorAmM01
set_option linter.unusedVariables false
set_option linter.unusedSimpArgs false
namespace Go.Proofs.YtickdehehcmfbaaGreatDoor.Am
open Go Go.Proofs
noncomputable section
def Ee:List (List Nat×List AV):=[
 ([110,117,108,108],[.int .i64 0,.bool false,.str [],.str [],.slice none 0 (some 0),.slice none 0 (some 0),.int .i64 0]),
 ([116,114,117,101],[.int .i64 1,.bool true,.str [],.str [],.slice none 0 (some 0),.slice none 0 (some 0),.int .i64 0]),
 ([102,97,108,115,101],[.int .i64 1,.bool false,.str [],.str [],.slice none 0 (some 0),.slice none 0 (some 0),.int .i64 0]),
 ([48],[.int .i64 2,.bool false,.str [48],.str [],.slice none 0 (some 0),.slice none 0 (some 0),.int .i64 0]),
 ([49],[.int .i64 2,.bool false,.str [49],.str [],.slice none 0 (some 0),.slice none 0 (some 0),.int .i64 0]),
 ([45,53],[.int .i64 2,.bool false,.str [45,53],.str [],.slice none 0 (some 0),.slice none 0 (some 0),.int .i64 0]),
 ([49,56,52,52,54,55,52,52,48,55,51,55,48,57,53,53,49,54,49,54],[.int .i64 2,.bool false,.str [49,56,52,52,54,55,52,52,48,55,51,55,48,57,53,53,49,54,49,54],.str [],.slice none 0 (some 0),.slice none 0 (some 0),.int .i64 0]),
 ([34,97,34],[.int .i64 3,.bool false,.str [],.str [97],.slice none 0 (some 0),.slice none 0 (some 0),.int .i64 0]),
 ([34,98,34],[.int .i64 3,.bool false,.str [],.str [98],.slice none 0 (some 0),.slice none 0 (some 0),.int .i64 0]),
 ([34,34],[.int .i64 3,.bool false,.str [],.str [],.slice none 0 (some 0),.slice none 0 (some 0),.int .i64 0]),
 ([40,100,105,99,116,41],[.int .i64 4,.bool false,.str [],.str [],.slice none 0 (some 0),.slice none 0 (some 0),.int .i64 0]),
 ([34,112,117,116,34],[.int .i64 3,.bool false,.str [],.str [112,117,116],.slice none 0 (some 0),.slice none 0 (some 0),.int .i64 0]),
 ([55,55],[.int .i64 2,.bool false,.str [55,55],.str [],.slice none 0 (some 0),.slice none 0 (some 0),.int .i64 0])]
def A7:List AV:=[.int .u64 1,.int .u64 10,.int .u64 100,.int .u64 1000,.int .u64 10000,.int .u64 100000,.int .u64 1000000,.int .u64 10000000,.int .u64 100000000,.int .u64 1000000000,.int .u64 10000000000,.int .u64 100000000000,.int .u64 1000000000000,.int .u64 10000000000000,.int .u64 100000000000000,.int .u64 1000000000000000,.int .u64 10000000000000000,.int .u64 100000000000000000,.int .u64 1000000000000000000,.int .u64 10000000000000000000]
def TI:List Row:=[
 ⟨44,[.agg [.int .i64 0,.bool false,.str [],.str [],.slice none 0 (some 0),.slice none 0 (some 0),.int .i64 0]],.bool true⟩,
 ⟨30,[.agg [.int .i64 0,.bool false,.str [],.str [],.slice none 0 (some 0),.slice none 0 (some 0),.int .i64 0]],.str [110,117,108,108]⟩,
 ⟨44,[.agg [.int .i64 1,.bool true,.str [],.str [],.slice none 0 (some 0),.slice none 0 (some 0),.int .i64 0]],.bool true⟩,
 ⟨30,[.agg [.int .i64 1,.bool true,.str [],.str [],.slice none 0 (some 0),.slice none 0 (some 0),.int .i64 0]],.str [116,114,117,101]⟩,
 ⟨44,[.agg [.int .i64 1,.bool false,.str [],.str [],.slice none 0 (some 0),.slice none 0 (some 0),.int .i64 0]],.bool true⟩,
 ⟨30,[.agg [.int .i64 1,.bool false,.str [],.str [],.slice none 0 (some 0),.slice none 0 (some 0),.int .i64 0]],.str [102,97,108,115,101]⟩,
 ⟨44,[.agg [.int .i64 2,.bool false,.str [48],.str [],.slice none 0 (some 0),.slice none 0 (some 0),.int .i64 0]],.bool true⟩,
 ⟨30,[.agg [.int .i64 2,.bool false,.str [48],.str [],.slice none 0 (some 0),.slice none 0 (some 0),.int .i64 0]],.str [48]⟩,
 ⟨44,[.agg [.int .i64 2,.bool false,.str [49],.str [],.slice none 0 (some 0),.slice none 0 (some 0),.int .i64 0]],.bool true⟩,
 ⟨30,[.agg [.int .i64 2,.bool false,.str [49],.str [],.slice none 0 (some 0),.slice none 0 (some 0),.int .i64 0]],.str [49]⟩,
 ⟨44,[.agg [.int .i64 2,.bool false,.str [45,53],.str [],.slice none 0 (some 0),.slice none 0 (some 0),.int .i64 0]],.bool true⟩,
 ⟨30,[.agg [.int .i64 2,.bool false,.str [45,53],.str [],.slice none 0 (some 0),.slice none 0 (some 0),.int .i64 0]],.str [45,53]⟩,
 ⟨44,[.agg [.int .i64 2,.bool false,.str [49,56,52,52,54,55,52,52,48,55,51,55,48,57,53,53,49,54,49,54],.str [],.slice none 0 (some 0),.slice none 0 (some 0),.int .i64 0]],.bool true⟩,
 ⟨30,[.agg [.int .i64 2,.bool false,.str [49,56,52,52,54,55,52,52,48,55,51,55,48,57,53,53,49,54,49,54],.str [],.slice none 0 (some 0),.slice none 0 (some 0),.int .i64 0]],.str [49,56,52,52,54,55,52,52,48,55,51,55,48,57,53,53,49,54,49,54]⟩]
def TJ:List Row:=[
 ⟨44,[.agg [.int .i64 3,.bool false,.str [],.str [97],.slice none 0 (some 0),.slice none 0 (some 0),.int .i64 0]],.bool true⟩,
 ⟨30,[.agg [.int .i64 3,.bool false,.str [],.str [97],.slice none 0 (some 0),.slice none 0 (some 0),.int .i64 0]],.str [34,97,34]⟩,
 ⟨44,[.agg [.int .i64 3,.bool false,.str [],.str [98],.slice none 0 (some 0),.slice none 0 (some 0),.int .i64 0]],.bool true⟩,
 ⟨30,[.agg [.int .i64 3,.bool false,.str [],.str [98],.slice none 0 (some 0),.slice none 0 (some 0),.int .i64 0]],.str [34,98,34]⟩,
 ⟨44,[.agg [.int .i64 3,.bool false,.str [],.str [],.slice none 0 (some 0),.slice none 0 (some 0),.int .i64 0]],.bool true⟩,
 ⟨30,[.agg [.int .i64 3,.bool false,.str [],.str [],.slice none 0 (some 0),.slice none 0 (some 0),.int .i64 0]],.str [34,34]⟩,
 ⟨44,[.agg [.int .i64 4,.bool false,.str [],.str [],.slice none 0 (some 0),.slice none 0 (some 0),.int .i64 0]],.bool true⟩,
 ⟨30,[.agg [.int .i64 4,.bool false,.str [],.str [],.slice none 0 (some 0),.slice none 0 (some 0),.int .i64 0]],.str [40,100,105,99,116,41]⟩,
 ⟨44,[.agg [.int .i64 3,.bool false,.str [],.str [112,117,116],.slice none 0 (some 0),.slice none 0 (some 0),.int .i64 0]],.bool true⟩,
 ⟨30,[.agg [.int .i64 3,.bool false,.str [],.str [112,117,116],.slice none 0 (some 0),.slice none 0 (some 0),.int .i64 0]],.str [34,112,117,116,34]⟩,
 ⟨44,[.agg [.int .i64 2,.bool false,.str [55,55],.str [],.slice none 0 (some 0),.slice none 0 (some 0),.int .i64 0]],.bool true⟩,
 ⟨30,[.agg [.int .i64 2,.bool false,.str [55,55],.str [],.slice none 0 (some 0),.slice none 0 (some 0),.int .i64 0]],.str [55,55]⟩,
 ⟨45,[.int .i64 (-3)],.str [45,51]⟩,
 ⟨45,[.int .i64 (-2)],.str [45,50]⟩]
def TK:List Row:=[
 ⟨45,[.int .i64 (-1)],.str [45,49]⟩,
 ⟨45,[.int .i64 (0)],.str [48]⟩,
 ⟨45,[.int .i64 (1)],.str [49]⟩,
 ⟨45,[.int .i64 (2)],.str [50]⟩,
 ⟨45,[.int .i64 (3)],.str [51]⟩,
 ⟨45,[.int .i64 (4)],.str [52]⟩,
 ⟨45,[.int .i64 (5)],.str [53]⟩,
 ⟨45,[.int .i64 (6)],.str [54]⟩,
 ⟨45,[.int .i64 (7)],.str [55]⟩,
 ⟨45,[.int .i64 (8)],.str [56]⟩,
 ⟨45,[.int .i64 (9)],.str [57]⟩,
 ⟨45,[.int .i64 (10)],.str [49,48]⟩,
 ⟨44,[.agg [.int .i64 5,.bool false,.str [],.str [],.slice none 0 (some 0),.slice none 0 (some 0),.int .i64 3]],.bool true⟩,
 ⟨44,[.agg [.int .i64 2,.bool false,.str [48,49],.str [],.slice none 0 (some 0),.slice none 0 (some 0),.int .i64 0]],.bool false⟩]
def TL:List Row:=[
 ⟨127,[.agg [.int .i64 0,.bool false,.str [],.str [],.slice none 0 (some 0),.slice none 0 (some 0),.int .i64 0],.agg [.int .i64 0,.bool false,.str [],.str [],.slice none 0 (some 0),.slice none 0 (some 0),.int .i64 0]],.bool true⟩,
 ⟨127,[.agg [.int .i64 0,.bool false,.str [],.str [],.slice none 0 (some 0),.slice none 0 (some 0),.int .i64 0],.agg [.int .i64 1,.bool true,.str [],.str [],.slice none 0 (some 0),.slice none 0 (some 0),.int .i64 0]],.bool false⟩,
 ⟨127,[.agg [.int .i64 0,.bool false,.str [],.str [],.slice none 0 (some 0),.slice none 0 (some 0),.int .i64 0],.agg [.int .i64 1,.bool false,.str [],.str [],.slice none 0 (some 0),.slice none 0 (some 0),.int .i64 0]],.bool false⟩,
 ⟨127,[.agg [.int .i64 0,.bool false,.str [],.str [],.slice none 0 (some 0),.slice none 0 (some 0),.int .i64 0],.agg [.int .i64 2,.bool false,.str [48],.str [],.slice none 0 (some 0),.slice none 0 (some 0),.int .i64 0]],.bool false⟩,
 ⟨127,[.agg [.int .i64 0,.bool false,.str [],.str [],.slice none 0 (some 0),.slice none 0 (some 0),.int .i64 0],.agg [.int .i64 2,.bool false,.str [49],.str [],.slice none 0 (some 0),.slice none 0 (some 0),.int .i64 0]],.bool false⟩,
 ⟨127,[.agg [.int .i64 0,.bool false,.str [],.str [],.slice none 0 (some 0),.slice none 0 (some 0),.int .i64 0],.agg [.int .i64 2,.bool false,.str [45,53],.str [],.slice none 0 (some 0),.slice none 0 (some 0),.int .i64 0]],.bool false⟩,
 ⟨127,[.agg [.int .i64 0,.bool false,.str [],.str [],.slice none 0 (some 0),.slice none 0 (some 0),.int .i64 0],.agg [.int .i64 2,.bool false,.str [49,56,52,52,54,55,52,52,48,55,51,55,48,57,53,53,49,54,49,54],.str [],.slice none 0 (some 0),.slice none 0 (some 0),.int .i64 0]],.bool false⟩,
 ⟨127,[.agg [.int .i64 0,.bool false,.str [],.str [],.slice none 0 (some 0),.slice none 0 (some 0),.int .i64 0],.agg [.int .i64 3,.bool false,.str [],.str [97],.slice none 0 (some 0),.slice none 0 (some 0),.int .i64 0]],.bool false⟩,
 ⟨127,[.agg [.int .i64 0,.bool false,.str [],.str [],.slice none 0 (some 0),.slice none 0 (some 0),.int .i64 0],.agg [.int .i64 3,.bool false,.str [],.str [98],.slice none 0 (some 0),.slice none 0 (some 0),.int .i64 0]],.bool false⟩,
 ⟨127,[.agg [.int .i64 0,.bool false,.str [],.str [],.slice none 0 (some 0),.slice none 0 (some 0),.int .i64 0],.agg [.int .i64 3,.bool false,.str [],.str [],.slice none 0 (some 0),.slice none 0 (some 0),.int .i64 0]],.bool false⟩,
 ⟨127,[.agg [.int .i64 0,.bool false,.str [],.str [],.slice none 0 (some 0),.slice none 0 (some 0),.int .i64 0],.agg [.int .i64 4,.bool false,.str [],.str [],.slice none 0 (some 0),.slice none 0 (some 0),.int .i64 0]],.bool false⟩,
 ⟨127,[.agg [.int .i64 1,.bool true,.str [],.str [],.slice none 0 (some 0),.slice none 0 (some 0),.int .i64 0],.agg [.int .i64 0,.bool false,.str [],.str [],.slice none 0 (some 0),.slice none 0 (some 0),.int .i64 0]],.bool false⟩,
 ⟨127,[.agg [.int .i64 1,.bool true,.str [],.str [],.slice none 0 (some 0),.slice none 0 (some 0),.int .i64 0],.agg [.int .i64 1,.bool true,.str [],.str [],.slice none 0 (some 0),.slice none 0 (some 0),.int .i64 0]],.bool true⟩,
 ⟨127,[.agg [.int .i64 1,.bool true,.str [],.str [],.slice none 0 (some 0),.slice none 0 (some 0),.int .i64 0],.agg [.int .i64 1,.bool false,.str [],.str [],.slice none 0 (some 0),.slice none 0 (some 0),.int .i64 0]],.bool false⟩]
def TM:List Row:=[
 ⟨127,[.agg [.int .i64 1,.bool true,.str [],.str [],.slice none 0 (some 0),.slice none 0 (some 0),.int .i64 0],.agg [.int .i64 2,.bool false,.str [48],.str [],.slice none 0 (some 0),.slice none 0 (some 0),.int .i64 0]],.bool false⟩,
 ⟨127,[.agg [.int .i64 1,.bool true,.str [],.str [],.slice none 0 (some 0),.slice none 0 (some 0),.int .i64 0],.agg [.int .i64 2,.bool false,.str [49],.str [],.slice none 0 (some 0),.slice none 0 (some 0),.int .i64 0]],.bool false⟩,
 ⟨127,[.agg [.int .i64 1,.bool true,.str [],.str [],.slice none 0 (some 0),.slice none 0 (some 0),.int .i64 0],.agg [.int .i64 2,.bool false,.str [45,53],.str [],.slice none 0 (some 0),.slice none 0 (some 0),.int .i64 0]],.bool false⟩,
 ⟨127,[.agg [.int .i64 1,.bool true,.str [],.str [],.slice none 0 (some 0),.slice none 0 (some 0),.int .i64 0],.agg [.int .i64 2,.bool false,.str [49,56,52,52,54,55,52,52,48,55,51,55,48,57,53,53,49,54,49,54],.str [],.slice none 0 (some 0),.slice none 0 (some 0),.int .i64 0]],.bool false⟩,
 ⟨127,[.agg [.int .i64 1,.bool true,.str [],.str [],.slice none 0 (some 0),.slice none 0 (some 0),.int .i64 0],.agg [.int .i64 3,.bool false,.str [],.str [97],.slice none 0 (some 0),.slice none 0 (some 0),.int .i64 0]],.bool false⟩,
 ⟨127,[.agg [.int .i64 1,.bool true,.str [],.str [],.slice none 0 (some 0),.slice none 0 (some 0),.int .i64 0],.agg [.int .i64 3,.bool false,.str [],.str [98],.slice none 0 (some 0),.slice none 0 (some 0),.int .i64 0]],.bool false⟩,
 ⟨127,[.agg [.int .i64 1,.bool true,.str [],.str [],.slice none 0 (some 0),.slice none 0 (some 0),.int .i64 0],.agg [.int .i64 3,.bool false,.str [],.str [],.slice none 0 (some 0),.slice none 0 (some 0),.int .i64 0]],.bool false⟩,
 ⟨127,[.agg [.int .i64 1,.bool true,.str [],.str [],.slice none 0 (some 0),.slice none 0 (some 0),.int .i64 0],.agg [.int .i64 4,.bool false,.str [],.str [],.slice none 0 (some 0),.slice none 0 (some 0),.int .i64 0]],.bool false⟩,
 ⟨127,[.agg [.int .i64 1,.bool false,.str [],.str [],.slice none 0 (some 0),.slice none 0 (some 0),.int .i64 0],.agg [.int .i64 0,.bool false,.str [],.str [],.slice none 0 (some 0),.slice none 0 (some 0),.int .i64 0]],.bool false⟩,
 ⟨127,[.agg [.int .i64 1,.bool false,.str [],.str [],.slice none 0 (some 0),.slice none 0 (some 0),.int .i64 0],.agg [.int .i64 1,.bool true,.str [],.str [],.slice none 0 (some 0),.slice none 0 (some 0),.int .i64 0]],.bool false⟩,
 ⟨127,[.agg [.int .i64 1,.bool false,.str [],.str [],.slice none 0 (some 0),.slice none 0 (some 0),.int .i64 0],.agg [.int .i64 1,.bool false,.str [],.str [],.slice none 0 (some 0),.slice none 0 (some 0),.int .i64 0]],.bool true⟩,
 ⟨127,[.agg [.int .i64 1,.bool false,.str [],.str [],.slice none 0 (some 0),.slice none 0 (some 0),.int .i64 0],.agg [.int .i64 2,.bool false,.str [48],.str [],.slice none 0 (some 0),.slice none 0 (some 0),.int .i64 0]],.bool false⟩,
 ⟨127,[.agg [.int .i64 1,.bool false,.str [],.str [],.slice none 0 (some 0),.slice none 0 (some 0),.int .i64 0],.agg [.int .i64 2,.bool false,.str [49],.str [],.slice none 0 (some 0),.slice none 0 (some 0),.int .i64 0]],.bool false⟩,
 ⟨127,[.agg [.int .i64 1,.bool false,.str [],.str [],.slice none 0 (some 0),.slice none 0 (some 0),.int .i64 0],.agg [.int .i64 2,.bool false,.str [45,53],.str [],.slice none 0 (some 0),.slice none 0 (some 0),.int .i64 0]],.bool false⟩]
def TN:List Row:=[
 ⟨127,[.agg [.int .i64 1,.bool false,.str [],.str [],.slice none 0 (some 0),.slice none 0 (some 0),.int .i64 0],.agg [.int .i64 2,.bool false,.str [49,56,52,52,54,55,52,52,48,55,51,55,48,57,53,53,49,54,49,54],.str [],.slice none 0 (some 0),.slice none 0 (some 0),.int .i64 0]],.bool false⟩,
 ⟨127,[.agg [.int .i64 1,.bool false,.str [],.str [],.slice none 0 (some 0),.slice none 0 (some 0),.int .i64 0],.agg [.int .i64 3,.bool false,.str [],.str [97],.slice none 0 (some 0),.slice none 0 (some 0),.int .i64 0]],.bool false⟩,
 ⟨127,[.agg [.int .i64 1,.bool false,.str [],.str [],.slice none 0 (some 0),.slice none 0 (some 0),.int .i64 0],.agg [.int .i64 3,.bool false,.str [],.str [98],.slice none 0 (some 0),.slice none 0 (some 0),.int .i64 0]],.bool false⟩,
 ⟨127,[.agg [.int .i64 1,.bool false,.str [],.str [],.slice none 0 (some 0),.slice none 0 (some 0),.int .i64 0],.agg [.int .i64 3,.bool false,.str [],.str [],.slice none 0 (some 0),.slice none 0 (some 0),.int .i64 0]],.bool false⟩,
 ⟨127,[.agg [.int .i64 1,.bool false,.str [],.str [],.slice none 0 (some 0),.slice none 0 (some 0),.int .i64 0],.agg [.int .i64 4,.bool false,.str [],.str [],.slice none 0 (some 0),.slice none 0 (some 0),.int .i64 0]],.bool false⟩,
 ⟨127,[.agg [.int .i64 2,.bool false,.str [48],.str [],.slice none 0 (some 0),.slice none 0 (some 0),.int .i64 0],.agg [.int .i64 0,.bool false,.str [],.str [],.slice none 0 (some 0),.slice none 0 (some 0),.int .i64 0]],.bool false⟩,
 ⟨127,[.agg [.int .i64 2,.bool false,.str [48],.str [],.slice none 0 (some 0),.slice none 0 (some 0),.int .i64 0],.agg [.int .i64 1,.bool true,.str [],.str [],.slice none 0 (some 0),.slice none 0 (some 0),.int .i64 0]],.bool false⟩,
 ⟨127,[.agg [.int .i64 2,.bool false,.str [48],.str [],.slice none 0 (some 0),.slice none 0 (some 0),.int .i64 0],.agg [.int .i64 1,.bool false,.str [],.str [],.slice none 0 (some 0),.slice none 0 (some 0),.int .i64 0]],.bool false⟩,
 ⟨127,[.agg [.int .i64 2,.bool false,.str [48],.str [],.slice none 0 (some 0),.slice none 0 (some 0),.int .i64 0],.agg [.int .i64 2,.bool false,.str [48],.str [],.slice none 0 (some 0),.slice none 0 (some 0),.int .i64 0]],.bool true⟩,
 ⟨127,[.agg [.int .i64 2,.bool false,.str [48],.str [],.slice none 0 (some 0),.slice none 0 (some 0),.int .i64 0],.agg [.int .i64 2,.bool false,.str [49],.str [],.slice none 0 (some 0),.slice none 0 (some 0),.int .i64 0]],.bool false⟩,
 ⟨127,[.agg [.int .i64 2,.bool false,.str [48],.str [],.slice none 0 (some 0),.slice none 0 (some 0),.int .i64 0],.agg [.int .i64 2,.bool false,.str [45,53],.str [],.slice none 0 (some 0),.slice none 0 (some 0),.int .i64 0]],.bool false⟩,
 ⟨127,[.agg [.int .i64 2,.bool false,.str [48],.str [],.slice none 0 (some 0),.slice none 0 (some 0),.int .i64 0],.agg [.int .i64 2,.bool false,.str [49,56,52,52,54,55,52,52,48,55,51,55,48,57,53,53,49,54,49,54],.str [],.slice none 0 (some 0),.slice none 0 (some 0),.int .i64 0]],.bool false⟩,
 ⟨127,[.agg [.int .i64 2,.bool false,.str [48],.str [],.slice none 0 (some 0),.slice none 0 (some 0),.int .i64 0],.agg [.int .i64 3,.bool false,.str [],.str [97],.slice none 0 (some 0),.slice none 0 (some 0),.int .i64 0]],.bool false⟩,
 ⟨127,[.agg [.int .i64 2,.bool false,.str [48],.str [],.slice none 0 (some 0),.slice none 0 (some 0),.int .i64 0],.agg [.int .i64 3,.bool false,.str [],.str [98],.slice none 0 (some 0),.slice none 0 (some 0),.int .i64 0]],.bool false⟩]
def TO:List Row:=[
 ⟨127,[.agg [.int .i64 2,.bool false,.str [48],.str [],.slice none 0 (some 0),.slice none 0 (some 0),.int .i64 0],.agg [.int .i64 3,.bool false,.str [],.str [],.slice none 0 (some 0),.slice none 0 (some 0),.int .i64 0]],.bool false⟩,
 ⟨127,[.agg [.int .i64 2,.bool false,.str [48],.str [],.slice none 0 (some 0),.slice none 0 (some 0),.int .i64 0],.agg [.int .i64 4,.bool false,.str [],.str [],.slice none 0 (some 0),.slice none 0 (some 0),.int .i64 0]],.bool false⟩,
 ⟨127,[.agg [.int .i64 2,.bool false,.str [49],.str [],.slice none 0 (some 0),.slice none 0 (some 0),.int .i64 0],.agg [.int .i64 0,.bool false,.str [],.str [],.slice none 0 (some 0),.slice none 0 (some 0),.int .i64 0]],.bool false⟩,
 ⟨127,[.agg [.int .i64 2,.bool false,.str [49],.str [],.slice none 0 (some 0),.slice none 0 (some 0),.int .i64 0],.agg [.int .i64 1,.bool true,.str [],.str [],.slice none 0 (some 0),.slice none 0 (some 0),.int .i64 0]],.bool false⟩,
 ⟨127,[.agg [.int .i64 2,.bool false,.str [49],.str [],.slice none 0 (some 0),.slice none 0 (some 0),.int .i64 0],.agg [.int .i64 1,.bool false,.str [],.str [],.slice none 0 (some 0),.slice none 0 (some 0),.int .i64 0]],.bool false⟩,
 ⟨127,[.agg [.int .i64 2,.bool false,.str [49],.str [],.slice none 0 (some 0),.slice none 0 (some 0),.int .i64 0],.agg [.int .i64 2,.bool false,.str [48],.str [],.slice none 0 (some 0),.slice none 0 (some 0),.int .i64 0]],.bool false⟩,
 ⟨127,[.agg [.int .i64 2,.bool false,.str [49],.str [],.slice none 0 (some 0),.slice none 0 (some 0),.int .i64 0],.agg [.int .i64 2,.bool false,.str [49],.str [],.slice none 0 (some 0),.slice none 0 (some 0),.int .i64 0]],.bool true⟩,
 ⟨127,[.agg [.int .i64 2,.bool false,.str [49],.str [],.slice none 0 (some 0),.slice none 0 (some 0),.int .i64 0],.agg [.int .i64 2,.bool false,.str [45,53],.str [],.slice none 0 (some 0),.slice none 0 (some 0),.int .i64 0]],.bool false⟩,
 ⟨127,[.agg [.int .i64 2,.bool false,.str [49],.str [],.slice none 0 (some 0),.slice none 0 (some 0),.int .i64 0],.agg [.int .i64 2,.bool false,.str [49,56,52,52,54,55,52,52,48,55,51,55,48,57,53,53,49,54,49,54],.str [],.slice none 0 (some 0),.slice none 0 (some 0),.int .i64 0]],.bool false⟩,
 ⟨127,[.agg [.int .i64 2,.bool false,.str [49],.str [],.slice none 0 (some 0),.slice none 0 (some 0),.int .i64 0],.agg [.int .i64 3,.bool false,.str [],.str [97],.slice none 0 (some 0),.slice none 0 (some 0),.int .i64 0]],.bool false⟩,
 ⟨127,[.agg [.int .i64 2,.bool false,.str [49],.str [],.slice none 0 (some 0),.slice none 0 (some 0),.int .i64 0],.agg [.int .i64 3,.bool false,.str [],.str [98],.slice none 0 (some 0),.slice none 0 (some 0),.int .i64 0]],.bool false⟩,
 ⟨127,[.agg [.int .i64 2,.bool false,.str [49],.str [],.slice none 0 (some 0),.slice none 0 (some 0),.int .i64 0],.agg [.int .i64 3,.bool false,.str [],.str [],.slice none 0 (some 0),.slice none 0 (some 0),.int .i64 0]],.bool false⟩,
 ⟨127,[.agg [.int .i64 2,.bool false,.str [49],.str [],.slice none 0 (some 0),.slice none 0 (some 0),.int .i64 0],.agg [.int .i64 4,.bool false,.str [],.str [],.slice none 0 (some 0),.slice none 0 (some 0),.int .i64 0]],.bool false⟩,
 ⟨127,[.agg [.int .i64 2,.bool false,.str [45,53],.str [],.slice none 0 (some 0),.slice none 0 (some 0),.int .i64 0],.agg [.int .i64 0,.bool false,.str [],.str [],.slice none 0 (some 0),.slice none 0 (some 0),.int .i64 0]],.bool false⟩]
def TP:List Row:=[
 ⟨127,[.agg [.int .i64 2,.bool false,.str [45,53],.str [],.slice none 0 (some 0),.slice none 0 (some 0),.int .i64 0],.agg [.int .i64 1,.bool true,.str [],.str [],.slice none 0 (some 0),.slice none 0 (some 0),.int .i64 0]],.bool false⟩,
 ⟨127,[.agg [.int .i64 2,.bool false,.str [45,53],.str [],.slice none 0 (some 0),.slice none 0 (some 0),.int .i64 0],.agg [.int .i64 1,.bool false,.str [],.str [],.slice none 0 (some 0),.slice none 0 (some 0),.int .i64 0]],.bool false⟩,
 ⟨127,[.agg [.int .i64 2,.bool false,.str [45,53],.str [],.slice none 0 (some 0),.slice none 0 (some 0),.int .i64 0],.agg [.int .i64 2,.bool false,.str [48],.str [],.slice none 0 (some 0),.slice none 0 (some 0),.int .i64 0]],.bool false⟩,
 ⟨127,[.agg [.int .i64 2,.bool false,.str [45,53],.str [],.slice none 0 (some 0),.slice none 0 (some 0),.int .i64 0],.agg [.int .i64 2,.bool false,.str [49],.str [],.slice none 0 (some 0),.slice none 0 (some 0),.int .i64 0]],.bool false⟩,
 ⟨127,[.agg [.int .i64 2,.bool false,.str [45,53],.str [],.slice none 0 (some 0),.slice none 0 (some 0),.int .i64 0],.agg [.int .i64 2,.bool false,.str [45,53],.str [],.slice none 0 (some 0),.slice none 0 (some 0),.int .i64 0]],.bool true⟩,
 ⟨127,[.agg [.int .i64 2,.bool false,.str [45,53],.str [],.slice none 0 (some 0),.slice none 0 (some 0),.int .i64 0],.agg [.int .i64 2,.bool false,.str [49,56,52,52,54,55,52,52,48,55,51,55,48,57,53,53,49,54,49,54],.str [],.slice none 0 (some 0),.slice none 0 (some 0),.int .i64 0]],.bool false⟩,
 ⟨127,[.agg [.int .i64 2,.bool false,.str [45,53],.str [],.slice none 0 (some 0),.slice none 0 (some 0),.int .i64 0],.agg [.int .i64 3,.bool false,.str [],.str [97],.slice none 0 (some 0),.slice none 0 (some 0),.int .i64 0]],.bool false⟩,
 ⟨127,[.agg [.int .i64 2,.bool false,.str [45,53],.str [],.slice none 0 (some 0),.slice none 0 (some 0),.int .i64 0],.agg [.int .i64 3,.bool false,.str [],.str [98],.slice none 0 (some 0),.slice none 0 (some 0),.int .i64 0]],.bool false⟩,
 ⟨127,[.agg [.int .i64 2,.bool false,.str [45,53],.str [],.slice none 0 (some 0),.slice none 0 (some 0),.int .i64 0],.agg [.int .i64 3,.bool false,.str [],.str [],.slice none 0 (some 0),.slice none 0 (some 0),.int .i64 0]],.bool false⟩,
 ⟨127,[.agg [.int .i64 2,.bool false,.str [45,53],.str [],.slice none 0 (some 0),.slice none 0 (some 0),.int .i64 0],.agg [.int .i64 4,.bool false,.str [],.str [],.slice none 0 (some 0),.slice none 0 (some 0),.int .i64 0]],.bool false⟩,
 ⟨127,[.agg [.int .i64 2,.bool false,.str [49,56,52,52,54,55,52,52,48,55,51,55,48,57,53,53,49,54,49,54],.str [],.slice none 0 (some 0),.slice none 0 (some 0),.int .i64 0],.agg [.int .i64 0,.bool false,.str [],.str [],.slice none 0 (some 0),.slice none 0 (some 0),.int .i64 0]],.bool false⟩,
 ⟨127,[.agg [.int .i64 2,.bool false,.str [49,56,52,52,54,55,52,52,48,55,51,55,48,57,53,53,49,54,49,54],.str [],.slice none 0 (some 0),.slice none 0 (some 0),.int .i64 0],.agg [.int .i64 1,.bool true,.str [],.str [],.slice none 0 (some 0),.slice none 0 (some 0),.int .i64 0]],.bool false⟩,
 ⟨127,[.agg [.int .i64 2,.bool false,.str [49,56,52,52,54,55,52,52,48,55,51,55,48,57,53,53,49,54,49,54],.str [],.slice none 0 (some 0),.slice none 0 (some 0),.int .i64 0],.agg [.int .i64 1,.bool false,.str [],.str [],.slice none 0 (some 0),.slice none 0 (some 0),.int .i64 0]],.bool false⟩,
 ⟨127,[.agg [.int .i64 2,.bool false,.str [49,56,52,52,54,55,52,52,48,55,51,55,48,57,53,53,49,54,49,54],.str [],.slice none 0 (some 0),.slice none 0 (some 0),.int .i64 0],.agg [.int .i64 2,.bool false,.str [48],.str [],.slice none 0 (some 0),.slice none 0 (some 0),.int .i64 0]],.bool false⟩]
def TQ:List Row:=[
 ⟨127,[.agg [.int .i64 2,.bool false,.str [49,56,52,52,54,55,52,52,48,55,51,55,48,57,53,53,49,54,49,54],.str [],.slice none 0 (some 0),.slice none 0 (some 0),.int .i64 0],.agg [.int .i64 2,.bool false,.str [49],.str [],.slice none 0 (some 0),.slice none 0 (some 0),.int .i64 0]],.bool false⟩,
 ⟨127,[.agg [.int .i64 2,.bool false,.str [49,56,52,52,54,55,52,52,48,55,51,55,48,57,53,53,49,54,49,54],.str [],.slice none 0 (some 0),.slice none 0 (some 0),.int .i64 0],.agg [.int .i64 2,.bool false,.str [45,53],.str [],.slice none 0 (some 0),.slice none 0 (some 0),.int .i64 0]],.bool false⟩,
 ⟨127,[.agg [.int .i64 2,.bool false,.str [49,56,52,52,54,55,52,52,48,55,51,55,48,57,53,53,49,54,49,54],.str [],.slice none 0 (some 0),.slice none 0 (some 0),.int .i64 0],.agg [.int .i64 2,.bool false,.str [49,56,52,52,54,55,52,52,48,55,51,55,48,57,53,53,49,54,49,54],.str [],.slice none 0 (some 0),.slice none 0 (some 0),.int .i64 0]],.bool true⟩,
 ⟨127,[.agg [.int .i64 2,.bool false,.str [49,56,52,52,54,55,52,52,48,55,51,55,48,57,53,53,49,54,49,54],.str [],.slice none 0 (some 0),.slice none 0 (some 0),.int .i64 0],.agg [.int .i64 3,.bool false,.str [],.str [97],.slice none 0 (some 0),.slice none 0 (some 0),.int .i64 0]],.bool false⟩,
 ⟨127,[.agg [.int .i64 2,.bool false,.str [49,56,52,52,54,55,52,52,48,55,51,55,48,57,53,53,49,54,49,54],.str [],.slice none 0 (some 0),.slice none 0 (some 0),.int .i64 0],.agg [.int .i64 3,.bool false,.str [],.str [98],.slice none 0 (some 0),.slice none 0 (some 0),.int .i64 0]],.bool false⟩,
 ⟨127,[.agg [.int .i64 2,.bool false,.str [49,56,52,52,54,55,52,52,48,55,51,55,48,57,53,53,49,54,49,54],.str [],.slice none 0 (some 0),.slice none 0 (some 0),.int .i64 0],.agg [.int .i64 3,.bool false,.str [],.str [],.slice none 0 (some 0),.slice none 0 (some 0),.int .i64 0]],.bool false⟩,
 ⟨127,[.agg [.int .i64 2,.bool false,.str [49,56,52,52,54,55,52,52,48,55,51,55,48,57,53,53,49,54,49,54],.str [],.slice none 0 (some 0),.slice none 0 (some 0),.int .i64 0],.agg [.int .i64 4,.bool false,.str [],.str [],.slice none 0 (some 0),.slice none 0 (some 0),.int .i64 0]],.bool false⟩,
 ⟨127,[.agg [.int .i64 3,.bool false,.str [],.str [97],.slice none 0 (some 0),.slice none 0 (some 0),.int .i64 0],.agg [.int .i64 0,.bool false,.str [],.str [],.slice none 0 (some 0),.slice none 0 (some 0),.int .i64 0]],.bool false⟩,
 ⟨127,[.agg [.int .i64 3,.bool false,.str [],.str [97],.slice none 0 (some 0),.slice none 0 (some 0),.int .i64 0],.agg [.int .i64 1,.bool true,.str [],.str [],.slice none 0 (some 0),.slice none 0 (some 0),.int .i64 0]],.bool false⟩,
 ⟨127,[.agg [.int .i64 3,.bool false,.str [],.str [97],.slice none 0 (some 0),.slice none 0 (some 0),.int .i64 0],.agg [.int .i64 1,.bool false,.str [],.str [],.slice none 0 (some 0),.slice none 0 (some 0),.int .i64 0]],.bool false⟩,
 ⟨127,[.agg [.int .i64 3,.bool false,.str [],.str [97],.slice none 0 (some 0),.slice none 0 (some 0),.int .i64 0],.agg [.int .i64 2,.bool false,.str [48],.str [],.slice none 0 (some 0),.slice none 0 (some 0),.int .i64 0]],.bool false⟩,
 ⟨127,[.agg [.int .i64 3,.bool false,.str [],.str [97],.slice none 0 (some 0),.slice none 0 (some 0),.int .i64 0],.agg [.int .i64 2,.bool false,.str [49],.str [],.slice none 0 (some 0),.slice none 0 (some 0),.int .i64 0]],.bool false⟩,
 ⟨127,[.agg [.int .i64 3,.bool false,.str [],.str [97],.slice none 0 (some 0),.slice none 0 (some 0),.int .i64 0],.agg [.int .i64 2,.bool false,.str [45,53],.str [],.slice none 0 (some 0),.slice none 0 (some 0),.int .i64 0]],.bool false⟩,
 ⟨127,[.agg [.int .i64 3,.bool false,.str [],.str [97],.slice none 0 (some 0),.slice none 0 (some 0),.int .i64 0],.agg [.int .i64 2,.bool false,.str [49,56,52,52,54,55,52,52,48,55,51,55,48,57,53,53,49,54,49,54],.str [],.slice none 0 (some 0),.slice none 0 (some 0),.int .i64 0]],.bool false⟩]
def TR:List Row:=[
 ⟨127,[.agg [.int .i64 3,.bool false,.str [],.str [97],.slice none 0 (some 0),.slice none 0 (some 0),.int .i64 0],.agg [.int .i64 3,.bool false,.str [],.str [97],.slice none 0 (some 0),.slice none 0 (some 0),.int .i64 0]],.bool true⟩,
 ⟨127,[.agg [.int .i64 3,.bool false,.str [],.str [97],.slice none 0 (some 0),.slice none 0 (some 0),.int .i64 0],.agg [.int .i64 3,.bool false,.str [],.str [98],.slice none 0 (some 0),.slice none 0 (some 0),.int .i64 0]],.bool false⟩,
 ⟨127,[.agg [.int .i64 3,.bool false,.str [],.str [97],.slice none 0 (some 0),.slice none 0 (some 0),.int .i64 0],.agg [.int .i64 3,.bool false,.str [],.str [],.slice none 0 (some 0),.slice none 0 (some 0),.int .i64 0]],.bool false⟩,
 ⟨127,[.agg [.int .i64 3,.bool false,.str [],.str [97],.slice none 0 (some 0),.slice none 0 (some 0),.int .i64 0],.agg [.int .i64 4,.bool false,.str [],.str [],.slice none 0 (some 0),.slice none 0 (some 0),.int .i64 0]],.bool false⟩,
 ⟨127,[.agg [.int .i64 3,.bool false,.str [],.str [98],.slice none 0 (some 0),.slice none 0 (some 0),.int .i64 0],.agg [.int .i64 0,.bool false,.str [],.str [],.slice none 0 (some 0),.slice none 0 (some 0),.int .i64 0]],.bool false⟩,
 ⟨127,[.agg [.int .i64 3,.bool false,.str [],.str [98],.slice none 0 (some 0),.slice none 0 (some 0),.int .i64 0],.agg [.int .i64 1,.bool true,.str [],.str [],.slice none 0 (some 0),.slice none 0 (some 0),.int .i64 0]],.bool false⟩,
 ⟨127,[.agg [.int .i64 3,.bool false,.str [],.str [98],.slice none 0 (some 0),.slice none 0 (some 0),.int .i64 0],.agg [.int .i64 1,.bool false,.str [],.str [],.slice none 0 (some 0),.slice none 0 (some 0),.int .i64 0]],.bool false⟩,
 ⟨127,[.agg [.int .i64 3,.bool false,.str [],.str [98],.slice none 0 (some 0),.slice none 0 (some 0),.int .i64 0],.agg [.int .i64 2,.bool false,.str [48],.str [],.slice none 0 (some 0),.slice none 0 (some 0),.int .i64 0]],.bool false⟩,
 ⟨127,[.agg [.int .i64 3,.bool false,.str [],.str [98],.slice none 0 (some 0),.slice none 0 (some 0),.int .i64 0],.agg [.int .i64 2,.bool false,.str [49],.str [],.slice none 0 (some 0),.slice none 0 (some 0),.int .i64 0]],.bool false⟩,
 ⟨127,[.agg [.int .i64 3,.bool false,.str [],.str [98],.slice none 0 (some 0),.slice none 0 (some 0),.int .i64 0],.agg [.int .i64 2,.bool false,.str [45,53],.str [],.slice none 0 (some 0),.slice none 0 (some 0),.int .i64 0]],.bool false⟩,
 ⟨127,[.agg [.int .i64 3,.bool false,.str [],.str [98],.slice none 0 (some 0),.slice none 0 (some 0),.int .i64 0],.agg [.int .i64 2,.bool false,.str [49,56,52,52,54,55,52,52,48,55,51,55,48,57,53,53,49,54,49,54],.str [],.slice none 0 (some 0),.slice none 0 (some 0),.int .i64 0]],.bool false⟩,
 ⟨127,[.agg [.int .i64 3,.bool false,.str [],.str [98],.slice none 0 (some 0),.slice none 0 (some 0),.int .i64 0],.agg [.int .i64 3,.bool false,.str [],.str [97],.slice none 0 (some 0),.slice none 0 (some 0),.int .i64 0]],.bool false⟩,
 ⟨127,[.agg [.int .i64 3,.bool false,.str [],.str [98],.slice none 0 (some 0),.slice none 0 (some 0),.int .i64 0],.agg [.int .i64 3,.bool false,.str [],.str [98],.slice none 0 (some 0),.slice none 0 (some 0),.int .i64 0]],.bool true⟩,
 ⟨127,[.agg [.int .i64 3,.bool false,.str [],.str [98],.slice none 0 (some 0),.slice none 0 (some 0),.int .i64 0],.agg [.int .i64 3,.bool false,.str [],.str [],.slice none 0 (some 0),.slice none 0 (some 0),.int .i64 0]],.bool false⟩]
def Oi:List Row:=[
 ⟨127,[.agg [.int .i64 3,.bool false,.str [],.str [98],.slice none 0 (some 0),.slice none 0 (some 0),.int .i64 0],.agg [.int .i64 4,.bool false,.str [],.str [],.slice none 0 (some 0),.slice none 0 (some 0),.int .i64 0]],.bool false⟩,
 ⟨127,[.agg [.int .i64 3,.bool false,.str [],.str [],.slice none 0 (some 0),.slice none 0 (some 0),.int .i64 0],.agg [.int .i64 0,.bool false,.str [],.str [],.slice none 0 (some 0),.slice none 0 (some 0),.int .i64 0]],.bool false⟩,
 ⟨127,[.agg [.int .i64 3,.bool false,.str [],.str [],.slice none 0 (some 0),.slice none 0 (some 0),.int .i64 0],.agg [.int .i64 1,.bool true,.str [],.str [],.slice none 0 (some 0),.slice none 0 (some 0),.int .i64 0]],.bool false⟩,
 ⟨127,[.agg [.int .i64 3,.bool false,.str [],.str [],.slice none 0 (some 0),.slice none 0 (some 0),.int .i64 0],.agg [.int .i64 1,.bool false,.str [],.str [],.slice none 0 (some 0),.slice none 0 (some 0),.int .i64 0]],.bool false⟩,
 ⟨127,[.agg [.int .i64 3,.bool false,.str [],.str [],.slice none 0 (some 0),.slice none 0 (some 0),.int .i64 0],.agg [.int .i64 2,.bool false,.str [48],.str [],.slice none 0 (some 0),.slice none 0 (some 0),.int .i64 0]],.bool false⟩,
 ⟨127,[.agg [.int .i64 3,.bool false,.str [],.str [],.slice none 0 (some 0),.slice none 0 (some 0),.int .i64 0],.agg [.int .i64 2,.bool false,.str [49],.str [],.slice none 0 (some 0),.slice none 0 (some 0),.int .i64 0]],.bool false⟩,
 ⟨127,[.agg [.int .i64 3,.bool false,.str [],.str [],.slice none 0 (some 0),.slice none 0 (some 0),.int .i64 0],.agg [.int .i64 2,.bool false,.str [45,53],.str [],.slice none 0 (some 0),.slice none 0 (some 0),.int .i64 0]],.bool false⟩,
 ⟨127,[.agg [.int .i64 3,.bool false,.str [],.str [],.slice none 0 (some 0),.slice none 0 (some 0),.int .i64 0],.agg [.int .i64 2,.bool false,.str [49,56,52,52,54,55,52,52,48,55,51,55,48,57,53,53,49,54,49,54],.str [],.slice none 0 (some 0),.slice none 0 (some 0),.int .i64 0]],.bool false⟩,
 ⟨127,[.agg [.int .i64 3,.bool false,.str [],.str [],.slice none 0 (some 0),.slice none 0 (some 0),.int .i64 0],.agg [.int .i64 3,.bool false,.str [],.str [97],.slice none 0 (some 0),.slice none 0 (some 0),.int .i64 0]],.bool false⟩,
 ⟨127,[.agg [.int .i64 3,.bool false,.str [],.str [],.slice none 0 (some 0),.slice none 0 (some 0),.int .i64 0],.agg [.int .i64 3,.bool false,.str [],.str [98],.slice none 0 (some 0),.slice none 0 (some 0),.int .i64 0]],.bool false⟩,
 ⟨127,[.agg [.int .i64 3,.bool false,.str [],.str [],.slice none 0 (some 0),.slice none 0 (some 0),.int .i64 0],.agg [.int .i64 3,.bool false,.str [],.str [],.slice none 0 (some 0),.slice none 0 (some 0),.int .i64 0]],.bool true⟩,
 ⟨127,[.agg [.int .i64 3,.bool false,.str [],.str [],.slice none 0 (some 0),.slice none 0 (some 0),.int .i64 0],.agg [.int .i64 4,.bool false,.str [],.str [],.slice none 0 (some 0),.slice none 0 (some 0),.int .i64 0]],.bool false⟩,
 ⟨127,[.agg [.int .i64 4,.bool false,.str [],.str [],.slice none 0 (some 0),.slice none 0 (some 0),.int .i64 0],.agg [.int .i64 0,.bool false,.str [],.str [],.slice none 0 (some 0),.slice none 0 (some 0),.int .i64 0]],.bool false⟩,
 ⟨127,[.agg [.int .i64 4,.bool false,.str [],.str [],.slice none 0 (some 0),.slice none 0 (some 0),.int .i64 0],.agg [.int .i64 1,.bool true,.str [],.str [],.slice none 0 (some 0),.slice none 0 (some 0),.int .i64 0]],.bool false⟩]
def Oj:List Row:=[
 ⟨127,[.agg [.int .i64 4,.bool false,.str [],.str [],.slice none 0 (some 0),.slice none 0 (some 0),.int .i64 0],.agg [.int .i64 1,.bool false,.str [],.str [],.slice none 0 (some 0),.slice none 0 (some 0),.int .i64 0]],.bool false⟩,
 ⟨127,[.agg [.int .i64 4,.bool false,.str [],.str [],.slice none 0 (some 0),.slice none 0 (some 0),.int .i64 0],.agg [.int .i64 2,.bool false,.str [48],.str [],.slice none 0 (some 0),.slice none 0 (some 0),.int .i64 0]],.bool false⟩,
 ⟨127,[.agg [.int .i64 4,.bool false,.str [],.str [],.slice none 0 (some 0),.slice none 0 (some 0),.int .i64 0],.agg [.int .i64 2,.bool false,.str [49],.str [],.slice none 0 (some 0),.slice none 0 (some 0),.int .i64 0]],.bool false⟩,
 ⟨127,[.agg [.int .i64 4,.bool false,.str [],.str [],.slice none 0 (some 0),.slice none 0 (some 0),.int .i64 0],.agg [.int .i64 2,.bool false,.str [45,53],.str [],.slice none 0 (some 0),.slice none 0 (some 0),.int .i64 0]],.bool false⟩,
 ⟨127,[.agg [.int .i64 4,.bool false,.str [],.str [],.slice none 0 (some 0),.slice none 0 (some 0),.int .i64 0],.agg [.int .i64 2,.bool false,.str [49,56,52,52,54,55,52,52,48,55,51,55,48,57,53,53,49,54,49,54],.str [],.slice none 0 (some 0),.slice none 0 (some 0),.int .i64 0]],.bool false⟩,
 ⟨127,[.agg [.int .i64 4,.bool false,.str [],.str [],.slice none 0 (some 0),.slice none 0 (some 0),.int .i64 0],.agg [.int .i64 3,.bool false,.str [],.str [97],.slice none 0 (some 0),.slice none 0 (some 0),.int .i64 0]],.bool false⟩,
 ⟨127,[.agg [.int .i64 4,.bool false,.str [],.str [],.slice none 0 (some 0),.slice none 0 (some 0),.int .i64 0],.agg [.int .i64 3,.bool false,.str [],.str [98],.slice none 0 (some 0),.slice none 0 (some 0),.int .i64 0]],.bool false⟩,
 ⟨127,[.agg [.int .i64 4,.bool false,.str [],.str [],.slice none 0 (some 0),.slice none 0 (some 0),.int .i64 0],.agg [.int .i64 3,.bool false,.str [],.str [],.slice none 0 (some 0),.slice none 0 (some 0),.int .i64 0]],.bool false⟩,
 ⟨127,[.agg [.int .i64 4,.bool false,.str [],.str [],.slice none 0 (some 0),.slice none 0 (some 0),.int .i64 0],.agg [.int .i64 4,.bool false,.str [],.str [],.slice none 0 (some 0),.slice none 0 (some 0),.int .i64 0]],.bool true⟩,
 ⟨109,[.agg [.int .i64 0,.bool false,.str [],.str [],.slice none 0 (some 0),.slice none 0 (some 0),.int .i64 0]],.bool true⟩,
 ⟨109,[.agg [.int .i64 1,.bool true,.str [],.str [],.slice none 0 (some 0),.slice none 0 (some 0),.int .i64 0]],.bool true⟩,
 ⟨109,[.agg [.int .i64 1,.bool false,.str [],.str [],.slice none 0 (some 0),.slice none 0 (some 0),.int .i64 0]],.bool true⟩,
 ⟨109,[.agg [.int .i64 2,.bool false,.str [48],.str [],.slice none 0 (some 0),.slice none 0 (some 0),.int .i64 0]],.bool true⟩,
 ⟨109,[.agg [.int .i64 2,.bool false,.str [49],.str [],.slice none 0 (some 0),.slice none 0 (some 0),.int .i64 0]],.bool true⟩]
def Ok:List Row:=[
 ⟨109,[.agg [.int .i64 2,.bool false,.str [45,53],.str [],.slice none 0 (some 0),.slice none 0 (some 0),.int .i64 0]],.bool true⟩,
 ⟨109,[.agg [.int .i64 2,.bool false,.str [49,56,52,52,54,55,52,52,48,55,51,55,48,57,53,53,49,54,49,54],.str [],.slice none 0 (some 0),.slice none 0 (some 0),.int .i64 0]],.bool true⟩,
 ⟨109,[.agg [.int .i64 3,.bool false,.str [],.str [97],.slice none 0 (some 0),.slice none 0 (some 0),.int .i64 0]],.bool true⟩,
 ⟨109,[.agg [.int .i64 3,.bool false,.str [],.str [98],.slice none 0 (some 0),.slice none 0 (some 0),.int .i64 0]],.bool true⟩,
 ⟨109,[.agg [.int .i64 3,.bool false,.str [],.str [],.slice none 0 (some 0),.slice none 0 (some 0),.int .i64 0]],.bool true⟩,
 ⟨109,[.agg [.int .i64 4,.bool false,.str [],.str [],.slice none 0 (some 0),.slice none 0 (some 0),.int .i64 0]],.bool true⟩,
 ⟨7,[],.bool true⟩]
def DX (r:Row):Bool:=Eg r.args && GD r.res && TB r.res ((Cx Z2 100000).call r.f r.args (QD 1 A7))
theorem Py:TI.all DX=true:=by kernel_rfl
theorem Pz:TJ.all DX=true:=by kernel_rfl
theorem P0:TK.all DX=true:=by kernel_rfl
theorem P1:TL.all DX=true:=by kernel_rfl
theorem P2:TM.all DX=true:=by kernel_rfl
theorem P3:TN.all DX=true:=by kernel_rfl
theorem P4:TO.all DX=true:=by kernel_rfl
theorem P5:TP.all DX=true:=by kernel_rfl
theorem P6:TQ.all DX=true:=by kernel_rfl
theorem P7:TR.all DX=true:=by kernel_rfl
theorem NZ:Oi.all DX=true:=by kernel_rfl
theorem Na:Oj.all DX=true:=by kernel_rfl
theorem Nb:Ok.all DX=true:=by kernel_rfl
def CE:List Row:=TI++TJ++TK++TL++TM++TN++TO++TP++TQ++TR++Oi++Oj++Ok
theorem TS:∀r∈CE,Eg r.args=true∧GD r.res=true∧TB r.res ((Cx Z2 100000).call r.f r.args (QD 1 A7))=true:=by
 have h:CE.all DX=true:=by
  unfold CE
  simp only[List.all_append,Py,Pz,P0,P1,P2,P3,P4,P5,P6,P7,NZ,Na,Nb,Bool.and_self]
 intro r hr
 have:=List.all_eq_true.1 h r hr
 unfold DX at this
 simp only[Bool.and_eq_true]at this
 exact⟨this.1.1,this.1.2,this.2⟩
theorem Oe:Tryz.prog.follows .mixedOrders=true:=by kernel_rfl
theorem L0:Ii Tryz.prog=true:=by kernel_rfl
def B5:QO:=Kq 1 A7 [44,30,45,127,109,7] CE
theorem NM:D7 Tryz.prog B5:=Pl Oe (Ij L0) rfl Od (by kernel_rfl) TS
def Fm:QO:=fun f xs s=>match B5 f xs s with
 | some p=>some p
 | none=>Pk f xs s
theorem UY:D7 Tryz.prog Fm:=by
 intro ρ s w f xs v s1 as' hc hi hf ha
 unfold Fm at hc
 cases h:B5 f xs s with
 | some p=>rw[h]at hc;injection hc with hc;subst hc;exact NM ρ s w f xs v s1 as' h hi hf ha
 | none=>rw[h]at hc;exact Od ρ s w f xs v s1 as' hc hi hf ha
def Z3:Bl:=⟨Tryz.prog,Fm⟩
end
end Go.Proofs.YtickdehehcmfbaaGreatDoor.Am
set_option linter.unusedVariables false
set_option linter.unusedSimpArgs false
namespace Go.Proofs.YtickdehehcmfbaaGreatDoor.Am
open Go
noncomputable section
def K6:AV→Option Nat
 | .slice (some (i,_)) _ _=>some i
 | _=>none
section
variable{α:Type}
theorem AI.setF_succ(v:Option α)(f:Nat)(t:AI α)(k:Nat):AI.setF v (f+1) t (k+1)=if k % 2=0 then .node t.val (AI.setF v f t.left (k / 2)) t.right else .node t.val t.left (AI.setF v f t.right (k / 2)):=by
 by_cases h:k % 2=0
 ·have hb:Nat.beq (k % 2) 0=true:=by rw[h];rfl
  simp only[AI.setF,hb,cond_true,AI.nodeL_eq,AI.nodeR_eq]
  rw[if_pos h]
 ·have hb:Nat.beq (k % 2) 0=false:=AI.beq_no h
  simp only[AI.setF,hb,cond_false,AI.nodeL_eq,AI.nodeR_eq]
  rw[if_neg h]
theorem AI.setF_fuel   (v : Option α) : ∀ (f g : Nat) (t : AI   α) (k : Nat), k < f → k < g → AI.setF   v f t k = AI.setF   v g t k := by
  intro f
  induction f with
  | zero=>intro g t k h;omega
  | succ f ih =>
    intro g t k h1 h2
    cases g with
    | zero=>omega
    | succ g =>
      cases k with
      | zero=>rfl
      | succ k =>
        rw[AI.setF_succ,AI.setF_succ,ih g t.left (k / 2) (by omega) (by omega),ih g t.right (k / 2) (by omega) (by omega)]
theorem AI.setF_same(v w:Option α):∀ (f:Nat)(t:AI α)(k:Nat),k<f→AI.setF w f (AI.setF v f t k) k=AI.setF w f t k:=by
 intro f
 induction f with
 | zero=>intro t k h;omega
 | succ f ih =>
  intro t k h
  cases k with
  | zero=>rfl
  | succ k =>
   rw[AI.setF_succ,AI.setF_succ,AI.setF_succ]
   by_cases hk:k % 2=0
   ·simp only[hk,if_true,AI.val,AI.left,AI.right];rw[ih _ _ (by omega)]
   ·simp only[hk,if_false,AI.val,AI.left,AI.right];rw[ih _ _ (by omega)]
theorem AI.setF_comm   (v w : Option α) : ∀ (f : Nat) (t : AI   α) (k j : Nat), k < f → j < f → k ≠ j → AI.setF   w f (AI.setF   v f t k) j = AI.setF   v f (AI.setF   w f t j) k := by
  intro f
  induction f with
  | zero=>intro t k j h;omega
  | succ f ih =>
    intro t k j h1 h2 hne
    cases k with
    | zero =>
      cases j with
      | zero=>omega
      | succ j =>
        rw[AI.setF_succ,AI.setF_succ]
        by_cases hj:j % 2=0
        · simp only[hj,if_true,AI.setF,AI.val,AI.left,AI.right]
        · simp only[hj,if_false,AI.setF,AI.val,AI.left,AI.right]
    | succ k =>
      cases j with
      | zero =>
        rw[AI.setF_succ,AI.setF_succ]
        by_cases hk:k % 2=0
        · simp only[hk,if_true,AI.setF,AI.val,AI.left,AI.right]
        · simp only[hk,if_false,AI.setF,AI.val,AI.left,AI.right]
      | succ j =>
        simp only[AI.setF_succ]
        by_cases hk:k % 2=0<;>by_cases hj:j % 2=0
        · simp only[hk,hj,if_true,AI.val,AI.left,AI.right];rw[ih _ _ _ (by omega) (by omega) (by omega)]
        · simp only[hk,hj,if_true,if_false,AI.val,AI.left,AI.right]
        · simp only[hk,hj,if_true,if_false,AI.val,AI.left,AI.right]
        · simp only[hk,hj,if_false,AI.val,AI.left,AI.right];rw[ih _ _ _ (by omega) (by omega) (by omega)]
theorem AI.set_same(t:AI α)(k:Nat)(v w:α):(t.set k v).set k w=t.set k w:=AI.setF_same _ _ _ _ _ (by omega)
theorem AI.set_comm(t:AI α){k j:Nat}(h:k≠j)(v w:α):(t.set k v).set j w=(t.set j w).set k v:=by
 unfold AI.set AI.put
 rw[AI.setF_fuel _ (k+1) (k+j+1) t k (by omega) (by omega),AI.setF_fuel _ (j+1) (k+j+1) _ j (by omega) (by omega),AI.setF_fuel _ (j+1) (k+j+1) t j (by omega) (by omega),AI.setF_fuel _ (k+1) (k+j+1) _ k (by omega) (by omega)]
 exact AI.setF_comm _ _ _ _ _ _ (by omega) (by omega) h
theorem AI.fill_append(l m:List α):∀ (t:AI α)(k:Nat),t.fill k (l++m)=(t.fill k l).fill (k+l.length) m:=by
 induction l with
 | nil=>intro t k;rfl
 | cons a l ih=>intro t k;simp only[bS,AI.fill,ih,bO];rw[show k+1+l.length=k+(l.length+1)from by omega]
theorem AI.fill_set_below(l:List α):∀ (t:AI α)(k j:Nat)(v:α),j<k→(t.fill k l).set j v=(t.set j v).fill k l:=by
 induction l with
 | nil=>intro t k j v _;rfl
 | cons a l ih =>
  intro t k j v h
  simp only[AI.fill]
  rw[ih _ _ _ _ (by omega),AI.set_comm t (by omega)]
theorem AI.fill_set(l:List α):∀ (t:AI α)(k i:Nat)(v:α),i<l.length→(t.fill k l).set (k+i) v=t.fill k (l.set i v):=by
  induction l with
  | nil=>intro t k i v h;simp at h
  | cons a l ih =>
    intro t k i v h
    cases i with
    | zero =>
      simp only[AI.fill,cN,bU]
      rw[AI.fill_set_below _ _ _ _ _ (by omega),AI.set_same]
    | succ i =>
      simp only[AI.fill,bV]
      rw[show k+(i+1)=k+1+i from by omega]
      exact ih _ _ _ _ (by simpa using h)
end
def Pn(l:List AV):AI AV:=AI.fill .leaf 0 l
theorem Kw(l:List AV)(k:Nat):(Pn l).get k=l[k]? := by
 unfold Pn
 rw[AI.get_fill]
 by_cases h:k<l.length
 ·rw[if_pos ⟨bl _,by omega⟩];rfl
 ·rw[if_neg (by omega),bh (by omega)];rfl
def EL(cs:List AV)(off:Nat)(vs:List AV):List AV:=match vs with
 | []=>cs
 | v::vs=>EL (cs.set off v) (off+1) vs
theorem Fa:∀ (vs cs:List AV)(off:Nat),(EL cs off vs).length=cs.length
 | [],_,_=>rfl
 | v::vs,cs,off=>by unfold EL;rw[Fa];simp
theorem L5:∀ (vs cs:List AV)(off:Nat),off+vs.length≤cs.length→(Pn cs).fill off vs=Pn (EL cs off vs)
 | [],_,_,_=>rfl
 | v::vs,cs,off,h=>by
  simp only[AI.fill,EL]
  have e:(Pn cs).set off v=Pn (cs.set off v):=by
   unfold Pn
   have:=AI.fill_set cs .leaf 0 off v (by simp at h;omega)
   rwa[bN]at this
  rw[e]
  exact L5 vs _ _ (by simp at h ⊢;omega)
def R(e sz:Nat)(sp:Bool)(cs:List AV):Ao:=.row { elem:=e,sz,n:=cs.length,c:=Pn cs,spare:=sp,mode:=.own,par:=none,bytes:=true }
@[irreducible] def nid (b k:Nat):Nat:=b+k
theorem AG(b k:Nat):nid b k=b+k:=by unfold nid;rfl
theorem Eo(b:Nat):nid b 0=b:=by rw[AG];rfl
def ext(s:AD)(os:List Ao):AD:={ next:=nid s.next os.length,heap:=s.heap.fill s.next os }
theorem Af(s:AD):ext s []=s:=by
 unfold ext
 rw[bT,Eo];rfl
theorem Wm(s:AD)(os:List Ao):(ext s os).next=nid s.next os.length:=rfl
theorem Wp(s:AD)(i:Nat)(o:Ao):(setObj s i o).next=s.next:=rfl
theorem Wl(s:AD)(os:List Ao)(o:Ao):newObj (ext s os) o=ext s (os++[o]):=by
 unfold newObj ext
 simp only[AG,bu,bO,bT,AI.fill_append,AI.fill]
 congr 1
theorem Wn{s:AD}{os:List Ao}{b k:Nat}(o:Ao)(hb:s.next=b)(hk:k<os.length):setObj (ext s os) (nid b k) o=ext s (os.set k o):=by
 subst hb
 unfold setObj ext
 simp only[AG,List.length_set]
 rw[AI.fill_set _ _ _ _ _ hk]
theorem Wg{s:AD}{os:List Ao}{b k:Nat}(hb:s.next=b)(hk:k<os.length):(ext s os).heap.get (nid b k)=os[k]? := by
 subst hb
 show(s.heap.fill s.next os).get _=_
 rw[AI.get_fill,AG,if_pos (by omega)]
 congr 1
 omega
theorem Wh{s:AD}{os:List Ao}{i:Nat}(hi:i<s.next):(ext s os).heap.get i=s.heap.get i:=by
 show(s.heap.fill s.next os).get _=_
 rw[AI.get_fill,if_neg (by omega)]
theorem Wq(s:AD)(i:Nat)(o:Ao):(setObj s i o).heap.get i=some o:=by
 show(s.heap.set i o).get i=_
 rw[AI.get_set,if_pos rfl]
theorem Wr{s:AD}{i j:Nat}(o:Ao)(h:j≠i):(setObj s i o).heap.get j=s.heap.get j:=by
 show(s.heap.set i o).get j=_
 rw[AI.get_set,if_neg h]
def TF:Option Ao→Option CJ
 | some (.row r)=>some r
 | _=>none
def Cz(o:Option Ao)(off:Nat):Option AV:=(TF o).bind fun r=>AF (Nat.blt off r.n) (r.c.get off)
def A1(o:Option Ao)(off n:Nat):Option (List AV):=(TF o).bind fun r=>AF (Nat.ble (off+n) r.n) (r.c.take off n)
def Yw(kt:TypeId):Option Ao→Option (List (AV×AV))
 | some (.map kt' es)=>AF (Nat.beq kt' kt) (some es)
 | _=>none
theorem Ug(s:AD)(i:Nat):rowAt s i=TF (s.heap.get i):=rfl
theorem UU(s:AD)(i off:Nat):Ca s i off=Cz (s.heap.get i) off:=rfl
theorem Co(s:AD)(i off n:Nat):BG s i off n=A1 (s.heap.get i) off n:=rfl
theorem H0(s:AD)(kt i:Nat):FV s kt i=Yw kt (s.heap.get i):=rfl
theorem Wi(e sz:Nat)(sp:Bool)(cs:List AV)(off:Nat):Cz (some (R e sz sp cs)) off=cs[off]? := by
 show AF (Nat.blt off cs.length) ((Pn cs).get off)=_
 rw[Kw]
 by_cases h:off<cs.length
 ·have:Nat.blt off cs.length=true:=by rw[bq];exact h
  rw[this];rfl
 ·have:Nat.blt off cs.length=false:=by
   cases hb:Nat.blt off cs.length with
   | false=>rfl
   | true=>rw[bq]at hb;exact absurd hb h
  rw[this,bh (by omega)];rfl
theorem MT:∀ (n:Nat)(cs:List AV)(off:Nat),off+n≤cs.length→(Pn cs).take off n=some ((cs.drop off).take n)
 | 0,cs,off,_=>by simp[AI.take]
 | n+1,cs,off,h=>by
  have hg:cs[off]? = some cs[off]:=bc (by omega)
  simp only[AI.take,Kw,hg,MT n cs (off+1) (by omega)]
  rw[show cs.drop off=cs[off]::cs.drop (off+1)from(List.drop_eq_getElem_cons (by omega))]
  rfl
theorem Wj{e sz:Nat}{sp:Bool}{cs:List AV}{off n:Nat}(h:off+n≤cs.length):A1 (some (R e sz sp cs)) off n=some ((cs.drop off).take n):=by
 show AF (Nat.ble (off+n) cs.length) ((Pn cs).take off n)=_
 have:Nat.ble (off+n) cs.length=true:=by rw[bf];exact h
 rw[this,MT n cs off h];rfl
theorem GO(kt:TypeId)(es:List (AV×AV)):Yw kt (some (.map kt es))=some es:=by simp[Yw,AF]
theorem Wd(s:AD)(i off:Nat):Bu s i off []=some s:=rfl
end
end Go.Proofs.YtickdehehcmfbaaGreatDoor.Am
set_option linter.unusedVariables false
set_option linter.unusedSimpArgs false
namespace Go.Proofs.YtickdehehcmfbaaGreatDoor.Am
open Go Go.Proofs
noncomputable section
inductive Tm where
 | var (id:Int)
 | bnd (i:Int)
 | con (n:Nat)
 | sel (d k:Tm)
 | upd (d k a:Tm)
 deriving DecidableEq
namespace Tm
def kids:Tm→List Tm
 | sel d k=>[d,k]
 | upd d k a=>[d,k,a]
 | _=>[]
def kind:Tm→Int
 | var _=>0
 | bnd _=>1
 | con _=>2
 | sel ..=>3
 | upd ..=>4
def id:Tm→Int
 | var i=>i
 | bnd i=>i
 | _=>0
def ktext:Tm→List Nat
 | con n=>(Ee.getD n ([],[])).1
 | _=>[]
def nullC:List AV:=[.int .i64 0,.bool false,.str [],.str [],.slice none 0 (some 0),.slice none 0 (some 0),.int .i64 0]
def cells:Tm→List AV
 | con n=>(Ee.getD n ([],nullC)).2
 | _=>nullC
def ok:Tm→Prop
 | var i=>i64 i
 | bnd i=>0≤i∧i64 i
 | con n=>n<13
 | _=>True
def sz:Tm→Nat
 | sel d k=>min (min (1+d.sz) 4097+k.sz) 4097
 | upd d k a=>min (min (min (1+d.sz) 4097+k.sz) 4097+a.sz) 4097
 | _=>1
def has(x:Int):Tm→Bool
 | var i=>decide (i=x)
 | sel d k=>d.has x || k.has x
 | upd d k a=>d.has x || k.has x || a.has x
 | _=>false
theorem sz_pos:∀t:Tm,1≤t.sz∧t.sz≤4097
 | var _ | bnd _ | con _=>by simp[sz]
 | sel d k=>by have:=sz_pos d;have:=sz_pos k;simp only[sz];omega
 | upd d k a=>by have:=sz_pos d;have:=sz_pos k;have:=sz_pos a;simp only[sz];omega
end Tm
structure JA(S:List Tm):Prop where
 nd:S.Nodup
 cl:∀ (i:Nat) (t:Tm),S[i]? = some t→∀k∈t.kids,∃j:Nat,j<i∧S[j]? = some k
 ok:∀t∈S,t.ok
def ix(S:List Tm)(t:Tm):Nat:=S.idxOf t
theorem DP{S:List Tm}{t:Tm}(h:t∈S):S[ix S t]? = some t:=by
 have hl:=List.idxOf_lt_length_of_mem h
 rw[ix,bc hl,List.getElem_idxOf hl]
theorem GJ{S:List Tm}{t:Tm}(h:t∈S):ix S t<S.length:=List.idxOf_lt_length_of_mem h
theorem Gx{S:List Tm}{t u:Tm}(h:t∈S)(k:u∈S)(e:ix S t=ix S u):t=u:=by
 have h1:=DP h
 rw[e,DP k]at h1
 injection h1 with h1
 exact h1.symm
theorem Ll{S:List Tm}(hn:S.Nodup){i:Nat}{t:Tm}(h:S[i]? = some t):ix S t=i:=by
 have hm:=bn h
 have h1:=DP hm
 have hi:i<S.length:=by
  rcases be i S.length with h' | h'
  ·exact h'
  ·rw[bh h']at h;cases h
 have hl:=GJ hm
 rw[bc hi]at h
 rw[bc hl]at h1
 injection h with h
 injection h1 with h1
 exact(List.getElem_inj hn).1 (h1.trans h.symm)
theorem FA{S:List Tm}{t:Tm}(u:List Tm)(h:t∈S):ix (S++u) t=ix S t:=by
 unfold ix
 rw[cW,if_pos h]
theorem Sp{S:List Tm}{u:Tm}(h:u ∉ S):ix (S++[u]) u=S.length:=by
 unfold ix
 rw[cW,if_neg h]
 simp
theorem JA.kid{S:List Tm}(h:JA S){t k:Tm}(ht:t∈S)(hk:k∈t.kids):k∈S∧ix S k<ix S t:=by
 obtain⟨j,h1,h2⟩:=h.cl _ _ (DP ht) k hk
 exact⟨bn h2,by rw[Ll h.nd h2];exact h1⟩
theorem JA.push  {S : List Tm} (h : JA  S) {u : Tm} (hu : u ∉ S) (hk : ∀ k ∈ u.kids, k ∈ S) (ho : u.ok) : JA  (S ++ [u]) where
  nd:=by
    rw[List.nodup_append]
    refine⟨h.nd,by simp,fun a ha b hb e=>?_⟩
    simp at hb
    subst hb;subst e
    exact hu ha
  cl := by
    intro i t hi k hkt
    rcases be i S.length with hl | hl
    · rw[bt hl]at hi
      obtain⟨j,h1,h2⟩:=h.cl i t hi k hkt
      exact⟨j,h1,by rw[bt (by omega)];exact h2⟩
    · rw[bz hl]at hi
      have:i - S.length=0:=by
        rcases cD (i - S.length)with e | e
        · exact e
        · rw[bh (by simp;omega)]at hi;cases hi
      rw[this]at hi
      simp at hi
      subst hi
      have hm:=hk k hkt
      exact⟨ix S k,by have:=GJ hm;omega,by rw[bt (GJ hm)];exact DP hm⟩
  ok:=fun t ht=>by
    rcases List.mem_append.1 ht with h' | h'
    · exact h.ok t h'
    · simp at h';subst h';exact ho
def part(S:List Tm)(t:Tm)(k:Nat):Int:=match t.kids[k]? with
 | some u=>(ix S u:Int)
 | none=>0
def BI(S:List Tm)(t:Tm):List AV:=[iv t.kind,iv t.id,iv (part S t 0),iv (part S t 1),iv (part S t 2),.str t.ktext]
theorem Et{S:List Tm}{t:Tm}(u:List Tm)(h:∀k∈t.kids,k∈S)(k:Nat):part (S++u) t k=part S t k:=by
 unfold part
 cases e:t.kids[k]? with
 | none=>rfl
 | some x=>show(ix (S++u) x:Int)=ix S x;rw[FA u (h x (bn e))]
theorem Dh{S:List Tm}{t:Tm}(u:List Tm)(h:∀k∈t.kids,k∈S):BI (S++u) t=BI S t:=by
 unfold BI
 rw[Et u h,Et u h,Et u h]
theorem SM:∀a,a<13→∀b,b<13→(Ee.getD a ([],[])).1=(Ee.getD b ([],[])).1→a=b:=by decide
theorem Sq{S:List Tm}{t u:Tm}(ht:∀k∈t.kids,k∈S)(hu:∀k∈u.kids,k∈S)(ot:t.ok)(ou:u.ok)(h:BI S t=BI S u):t=u:=by
  unfold BI at h
  simp only[List.cons.injEq,and_true,AV.int.injEq,true_and,AV.str.injEq]at h
  obtain⟨h1,h2,h3,h4,h5,h6⟩:=h
  cases t<;>cases u<;>first | (simp[Tm.kind]at h1;done) | skip
  · have e:_=_:=h2
    simp only[Tm.id]at e
    rw[e]
  · have e:_=_:=h2
    simp only[Tm.id]at e
    rw[e]
  · rename_i a b
    rw[SM a ot b ou h6]
  · rename_i a b c d
    have e1:(ix S a:Int)=ix S c:=h3
    have e2:(ix S b:Int)=ix S d:=h4
    rw[Gx (ht a (by simp[Tm.kids])) (hu c (by simp[Tm.kids])) (by omega),Gx (ht b (by simp[Tm.kids])) (hu d (by simp[Tm.kids])) (by omega)]
  · rename_i a b x c d y
    have e1:(ix S a:Int)=ix S c:=h3
    have e2:(ix S b:Int)=ix S d:=h4
    have e3:(ix S x:Int)=ix S y:=h5
    rw[Gx (ht a (by simp[Tm.kids])) (hu c (by simp[Tm.kids])) (by omega),Gx (ht b (by simp[Tm.kids])) (hu d (by simp[Tm.kids])) (by omega),Gx (ht x (by simp[Tm.kids])) (hu y (by simp[Tm.kids])) (by omega)]
theorem PZ(S:List Tm)(t u:Tm):∃b,Di (.agg (BI S t)) (.agg (BI S u))=some b∧(b=true↔BI S t=BI S u):=by
 have si:∀a b:Int,OP a b=decide (a=b):=fun a b=>by rw[DL];rfl
 have ss:∀a b:List Nat,BX a b=decide (a=b):=fun a b=>by
  rw[Bool.eq_iff_iff,decide_eq_true_eq];exact D5
 refine⟨_,by simp only[BI,Di,Di.keysEq,Bh,AF,cond_true,Option.bind_some];rfl,?_⟩
 simp only[BI,si,ss,Bool.and_eq_true,decide_eq_true_eq,List.cons.injEq,and_true,AV.int.injEq,true_and,AV.str.injEq,Bool.and_true]
def CO(S:List Tm):List (AV×AV):=S.map fun t=>(.agg (BI S t),iv (ix S t))
theorem IT{S:List Tm}{u:Tm}(hs:JA S)(hu:u ∉ S)(hk:∀k∈u.kids,k∈S):CO (S++[u])=CO S++[(.agg (BI S u),iv (S.length:Int))]:=by
  unfold CO
  rw[cK]
  congr 1
  · refine cZ                  fun t ht => ?_
    rw[Dh [u] fun k hkk=>(hs.kid ht hkk).1,FA [u] ht]
  · simp only[bk,List.map_nil,Sp hu,Dh [u] hk]
theorem HN          {S : List Tm} (hs : JA  S) {u : Tm} (hk : ∀ k ∈ u.kids, k ∈ S) (ho : u.ok) : ∀ (l : List Tm) (i : Nat), (∀ t ∈ l, t ∈ S) →
    CW (.agg (BI S u)) (l.map fun t=>(.agg (BI S t),iv (ix S t))) i=some (if u∈l then some (i+l.idxOf u,iv (ix S u))else none)
  | [],i,_=>by simp[CW]
  | t::l,i,h=>by
    obtain⟨b,hb,hbi⟩:=PZ S u t
    simp only[bk,CW,hb,Option.bind_some]
    by_cases e:u=t
    · subst e
      rw[hbi.2 rfl]
      simp
    · have hne : BI   S u ≠ BI   S t := fun h' => e (Sq       hk (fun k hkk => (hs.kid (h t bm)                 hkk).1) ho (hs.ok t (h t bm))                 h')
      have hbf:b=false:=by
        cases b with
        | false=>rfl
        | true=>exact absurd (hbi.1 rfl) hne
      rw[hbf]
      simp only
      rw[HN hs hk ho l (i+1) fun x hx=>h x (br _ hx)]
      by_cases hm:u∈l
      · rw[if_pos hm,if_pos (br _ hm)]
        have:(t::l).idxOf u=l.idxOf u+1:=by rw[cX,beq_false_of_ne (Ne.symm e)];rfl
        rw[this,show i+1+l.idxOf u=i+(l.idxOf u+1)from by omega]
      · rw[if_neg hm,if_neg (by simp[e,hm])]
theorem IS{S:List Tm}(hs:JA S){u:Tm}(hk:∀k∈u.kids,k∈S)(ho:u.ok):CW (.agg (BI S u)) (CO S) 0=some (if u∈S then some (ix S u,iv (ix S u))else none):=by
 have:=HN hs hk ho S 0 fun _ h=>h
 rw[bN]at this
 exact this
def BB(ks:List Int):List (AV×AV):=ks.map fun k=>(iv k,iv 1)
def Fe(ks:List Int)(k:Int):List Int:=if k∈ks then ks else ks++[k]
theorem IQ         (k : Int) : ∀ (ks : List Int) (i : Nat), CW    (iv k) (BB     ks) i = some (if k ∈ ks then some (i + ks.idxOf k, iv 1) else none)
  | [],i=>by simp[CW,BB]
  | x::ks,i=>by
    have h1:Di (iv k) (iv x)=some (decide (k=x)):=by simp[Di,Bh,AF,DL];rfl
    show(Di (iv k) (iv x)).bind _=_
    rw[h1,Option.bind_some]
    by_cases e:k=x
    · subst e;simp
    · simp only [e, decide_false]
      show CW (iv k) (BB ks) (i+1)=_
      rw[IQ k ks (i+1)]
      by_cases hm:k∈ks
      · rw[if_pos hm,if_pos (br _ hm)]
        have:(x::ks).idxOf k=ks.idxOf k+1:=by rw[cX,beq_false_of_ne (Ne.symm e)];rfl
        rw[this,show i+1+ks.idxOf k=i+(ks.idxOf k+1)from by omega]
      · rw[if_neg hm,if_neg (by simp[e,hm])]
theorem Hg:∀ (ks:List Int)(i:Nat),setNth (BB ks) i (iv 1)=BB ks
 | [],_=>rfl
 | k::ks,0=>rfl
 | k::ks,i+1=>by show(iv k,iv 1)::setNth (BB ks) i (iv 1)=_;rw[Hg ks i];rfl
theorem Jx(ks:List Int)(k:Int):Kz (iv k) (iv 1) (BB ks)=some (BB (Fe ks k)):=by
 unfold Kz Fe
 rw[IQ,Option.bind_some]
 by_cases h:k∈ks
 ·rw[if_pos h,if_pos h]
  simp only[Hg]
 ·rw[if_neg h,if_neg h]
  simp[BB]
theorem Hd:∀ (ms ks:List Int),G4 (BB ms) (BB ks)=some (BB (ms.foldl Fe ks))
 | [],_=>rfl
 | m::ms,ks=>by
  show(Kz (iv m) (iv 1) (BB ks)).bind _=_
  rw[Jx,Option.bind_some]
  exact Hd ms _
theorem Mc{ks:List Int}(h:ks.Nodup)(k:Int):(Fe ks k).Nodup:=by
  unfold Fe
  split
  · exact h
  · rename_i hk
    rw[List.nodup_append]
    exact⟨h,by simp,fun a ha b hb e=>by simp at hb;subst hb;subst e;exact hk ha⟩
theorem Sv{ks:List Int}{k x:Int}:x∈Fe ks k↔x∈ks∨x=k:=by
 unfold Fe
 split
 ·rename_i hk
  exact⟨.inl,fun h=>h.elim (fun h=>h) (fun h=>by rw[h];exact hk)⟩
 ·simp
theorem HO:∀ (ms:List Int){ks:List Int},ks.Nodup→(ms.foldl Fe ks).Nodup
 | [],_,h=>h
 | m::ms,_,h=>HO ms (Mc h m)
theorem Jn{x:Int}:∀ (ms:List Int){ks:List Int},x∈ms.foldl Fe ks↔x∈ks∨x∈ms
  | [],_=>by simp
  | m::ms,ks=>by
    rw[cP,Jn ms,Sv]
    simp only[bv]
    constructor
    · rintro ((h | h) | h)
      · exact .inl h
      · exact .inr (.inl h)
      · exact .inr (.inr h)
    · rintro (h | h | h)
      · exact .inl (.inl h)
      · exact .inl (.inr h)
      · exact .inr h
theorem GM:∀ (ms:List Int)(ks:List Int),(ms.foldl Fe ks).length≤ks.length+ms.length
 | [],ks=>by simp
 | m::ms,ks=>by
  rw[cP]
  have:=GM ms (Fe ks m)
  have h:(Fe ks m).length≤ks.length+1:=by unfold Fe;split<;>simp
  simp;omega
end
end Go.Proofs.YtickdehehcmfbaaGreatDoor.Am
set_option linter.unusedVariables false
set_option linter.unusedSimpArgs false
namespace Go.Proofs.YtickdehehcmfbaaGreatDoor.Am
open Go
noncomputable section
section
variable{P:Program}{s:AD}{os:List Ao}{b k i o off n t e sz:Nat}{sp:Bool}{cs vs:List AV}
theorem Xb(cs:List AV):(AV.agg cs).cells=cs:=rfl
theorem Xc(q:IntKind)(n:Int):(AV.int q n).cells=[.int q n]:=rfl
theorem Xd(l:List Nat):(AV.str l).cells=[.str l]:=rfl
theorem Xe(x:Bool):(AV.bool x).cells=[.bool x]:=rfl
theorem Xf(m:Option Nat):(AV.map m).cells=[.map m]:=rfl
theorem Xg(a:Option (Nat×Nat)):(AV.ptr a).cells=[.ptr a]:=rfl
theorem Xh(a:Option (Nat×Nat))(n:Nat)(c:Option Nat):(AV.slice a n c).cells=[.slice a n c]:=rfl
theorem Xi(f:FuncId)(a c:List AV):(AV.func f a c).cells=[.func f a c]:=rfl
theorem Xj:AW []=true:=rfl
theorem Xk(v:AV)(l:List AV):AW (v::l)=(v.isCell && AW l):=rfl
theorem Xl(q:IntKind)(n:Int):(AV.int q n).isCell=true:=rfl
theorem Xm(l:List Nat):(AV.str l).isCell=true:=rfl
theorem Xn(x:Bool):(AV.bool x).isCell=true:=rfl
theorem Xo(m:Option Nat):(AV.map m).isCell=true:=rfl
theorem Xp(a:Option (Nat×Nat)):(AV.ptr a).isCell=true:=rfl
theorem Xq(a:Option (Nat×Nat))(n:Nat)(c:Option Nat):(AV.slice a n c).isCell=true:=rfl
theorem Xr(f:FuncId)(a c:List AV):(AV.func f a c).isCell=true:=rfl
theorem Xa{α:Type}(x:Option α):AF true x=x:=rfl
theorem Ty(a b:Nat):Nat.beq a b=decide (a=b):=by
 rw[Bool.eq_iff_iff,decide_eq_true_eq,cH]
theorem Tz(a b:Nat):Nat.ble a b=decide (a≤b):=by
 rw[Bool.eq_iff_iff,decide_eq_true_eq,bf]
theorem Rz(h:Da P t=some false):AK P s t (.ptr (some (i,o)))=Cz (s.heap.get i) o:=by
 unfold AK
 rw[h];rfl
theorem Wa(h:Da P t=some true):AK P s t (.ptr (some (i,o)))=(Ap P t).bind fun n=>(A1 (s.heap.get i) o n).bind fun l=>some (.agg l):=by
 unfold AK
 rw[h];rfl
theorem Wb(v:AV):As P s t (.ptr (some (i,o))) v=(Ap P t).bind fun n=>AF (decide (v.cells.length=n)) (Bu s i o v.cells):=by
 unfold As
 simp only[Ty]
def aR:Option Ao→Bool
 | some (.row r)=>Cy r.mode && r.par.isNone
 | _=>false
def aA(off:Nat)(vs:List AV):Option Ao→Option Ao
 | some (.row r)=>AF (Nat.ble (off+vs.length) r.n && AW vs) (some (.row { r with c:=r.c.fill off vs,par:=none }))
 | _=>none
theorem We(e sz:Nat)(sp:Bool)(cs:List AV):aR (some (R e sz sp cs))=true:=rfl
theorem Wf(e sz:Nat)(sp:Bool)(cs vs:List AV)(off:Nat):aA off vs (some (R e sz sp cs))=AF (decide (off+vs.length≤cs.length) && AW vs) (some (R e sz sp (EL cs off vs))):=by
 show AF (Nat.ble (off+vs.length) cs.length && AW vs) (some (Ao.row { elem:=e,sz,n:=cs.length,c:=(Pn cs).fill off vs,spare:=sp,mode:=.own,par:=none,bytes:=true }))=_
 rw[Tz]
 by_cases h:off+vs.length≤cs.length
 ·rw[L5 _ _ _ h]
  simp only[h,decide_true]
  rw[R,Fa]
 ·simp only[h,decide_false,Bool.false_and]
  rfl
theorem Wc{v:AV}(h:aR (s.heap.get i)=true):Bu s i off (v::vs)=(aA off (v::vs) (s.heap.get i)).bind fun o'=>some (setObj s i o'):=by
 unfold Bu
 rw[Ug]
 cases hg:s.heap.get i with
 | none=>rw[hg]at h;cases h
 | some ob =>
  rw[hg]at h
  cases ob<;>first | (cases h;done) | skip
  rename_i r
  simp only[aR,Bool.and_eq_true]at h
  have hp:r.par=none:=by cases hh:r.par with | none=>rfl | some _=>rw[hh]at h;simp at h
  show AF (Cy r.mode && Nat.ble (off+(v::vs).length) r.n && AW (v::vs)) _=(AF (Nat.ble (off+(v::vs).length) r.n && AW (v::vs)) _).bind _
  rw[h.1,Bool.true_and,A3,hp]
  cases Nat.ble (off+(v::vs).length) r.n && AW (v::vs)<;>rfl
theorem Ws(cs:List AV)(off:Nat):EL cs off []=cs:=rfl
theorem Wt(cs:List AV)(off:Nat)(v:AV)(vs:List AV):EL cs off (v::vs)=EL (cs.set off v) (off+1) vs:=rfl
theorem Wu(e:TypeId)(v:AV):EY e v=some (R e 0 false v.cells,.ptr):=rfl
theorem Wv(e:TypeId):Bo P e=(CI P e).bind fun z=>some (R e 0 false z.cells,.ptr):=rfl
theorem Ww(i:Nat):Made.ptr.val i=.ptr (some (i,0)):=rfl
theorem Wx(i:Nat):Made.map.val i=.map (some i):=rfl
theorem Wy(i n:Nat):(Made.slice n).val i=.slice (some (i,0)) n (some n):=rfl
theorem Wz(a:Nat×Nat):AY (.ptr (some a))=some (.ptr (some a)):=rfl
end
def D6(e:TypeId)(sz:Nat)(s:AD)(v:AV)(n:Nat)(cs:List AV)(O:List Nat):Prop:=
 (v=.slice none 0 (some 0)∧n=0∧cs=[]∧O=[])∨∃i p,v=.slice (some (i,0)) n none∧FL e 0 s.next s v n sz cs i p∧O=i::p.toList
section
variable{e sz n:Nat}{s s':AD}{v:AV}{cs:List AV}{O:List Nat}
theorem D6.nil(e sz:Nat)(s:AD):D6 e sz s (.slice none 0 (some 0)) 0 [] []:=.inl ⟨rfl,rfl,rfl,rfl⟩
theorem D6.len(h:D6 e sz s v n cs O):cs.length=n * sz:=by
 rcases h with⟨_,rfl,rfl,_⟩ | ⟨i,p,_,h,_⟩
 ·simp
 ·exact h.len
theorem D6.lt  (h : D6  e sz s v n cs O) : ∀ j ∈ O, j < s.next := by
  rcases h with⟨_,_,_,rfl⟩ | ⟨i,p,hv,h,rfl⟩
  · intro j hj;cases hj
  · rcases h.ex with ⟨h1, _⟩ | ⟨_, _, h2, h3, _⟩
    · rw[hv]at h1;cases h1
    · intro j hj
      rcases bv.1 hj with rfl | hj
      · exact h2
      · cases p with
        | none=>cases hj
        | some q=>simp at hj;subst hj;exact(h3 _ rfl).2.1
theorem D6.frame(h:D6 e sz s v n cs O)(hn:s.next≤s'.next)(hf:∀j∈O,s'.heap.get j=s.heap.get j):D6 e sz s' v n cs O:=by
 rcases h with h | ⟨i,p,hv,h,rfl⟩
 ·exact .inl h
 ·exact .inr ⟨i,p,hv,(h.mono hn).frame fun _ _=>hf i (by simp),rfl⟩
theorem D6.slice(h:D6 e sz s v n cs O):∃a cap,v=.slice a n cap∧E6 s.next s a cs:=by
 rcases h with⟨rfl,rfl,rfl,_⟩ | ⟨i,p,_,h,_⟩
 ·exact⟨none,some 0,rfl,E6.nil⟩
 ·exact h.cells
theorem D6.row(h:D6 e sz s v n cs O):(v=.slice none 0 (some 0)∧n=0∧cs=[])∨∃i r,v=.slice (some (i,0)) n none∧i∈O∧s.heap.get i=some (.row r)∧H3 r cs:=by
  rcases h with⟨h1,h2,h3,_⟩ | ⟨i,p,hv,h,rfl⟩
  · exact .inl ⟨h1,h2,h3⟩
  · rcases h.ex with ⟨h1, _⟩ | ⟨_, _, _, _, r, h4, h5, _⟩
    · rw[hv]at h1;cases h1
    · exact .inr ⟨i,r,hv,by simp,h4,h5⟩
theorem Sj{r:CJ}{cs:List AV}(h:H3 r cs){k:Nat}{u:AV}(hk:cs[k]? = some u):Cz (some (.row r)) k=some u:=by
 have hlt:k<cs.length:=by
  rcases be k cs.length with h' | h'
  ·exact h'
  ·rw[bh h']at hk;cases hk
 show AF (Nat.blt k r.n) (r.c.get k)=_
 rw[QU (show k<r.n by rw[h.1];exact hlt)]
 exact h.2 k u hk
theorem Df{r:CJ}{cs:List AV}(h:H3 r cs){o m:Nat}(hle:o+m≤cs.length):A1 (some (.row r)) o m=some ((cs.drop o).take m):=by
 show AF (Nat.ble (o+m) r.n) (r.c.take o m)=_
 rw[CM (show o+m≤r.n by rw[h.1];exact hle)]
 have hl:((cs.drop o).take m).length=m:=by simp;omega
 have:=h.take o ((cs.drop o).take m) (fun j u hj=>by
  have hjm:j<m:=by
   rcases be j m with h' | h'
   ·exact h'
   ·rw[bh (by omega)]at hj;cases hj
  rw[cO hjm,cU]at hj
  exact hj)
 rw[hl]at this
 exact this
theorem D6.append  {P : Program} {st xt by_ : Nat} (ht : P.underlying st = some (.slice e)) (hs : Ap    P e = some sz) (hb : Bz     P e = some by_) (h0 : 0 < sz) (hx : BH           P xt = true) (hz : Bv     P e sz = true) (h : D6  e sz s v n cs O)
    {ax:Option (Nat×Nat)} {m:Nat} {cx:Option Nat} {add:List AV} (hm:0<m) (hsrc:B3 P s e sz (.slice ax m cx)=some (m,add)) (ha:add.length=m * sz) (hc:AW add=true) (h1:(n+m) * by_≤1099511627776) (h2:n+m≤1099511627776):
    ∃v' s' O',Ay P s [st,xt] [v,.slice ax m cx]=some (v',s')∧D6 e sz s' v' (n+m) (cs++add) O'∧s'.next=s.next+1∧(∀j,j<s.next→j ∉ O→s'.heap.get j=s.heap.get j)∧(∀j∈O',j∈O∨s.next≤j)∧K6 v'=some s.next:=by
  have key:∀ (i:Nat) (p:Option Nat),FL e 0 s.next s v n sz cs i p→(∀j,j<s.next→j ∉ O→j≠i∧p≠some j)→(∀j,j=i∨p=some j→j∈O∨s.next≤j) →
      ∃v' s' O',Ay P s [st,xt] [v,.slice ax m cx]=some (v',s')∧D6 e sz s' v' (n+m) (cs++add) O'∧s'.next=s.next+1∧(∀j,j<s.next→j ∉ O→s'.heap.get j=s.heap.get j)∧(∀j∈O',j∈O∨s.next≤j)∧K6 v'=some s.next:=by
    intro i p hg hi hO
    obtain⟨a,cap,v',s',rfl,happ,i',p',hg',hap,_,rfl,hp',hn',_⟩:=hg.appTo (P:=P) (bM _) (bl _) hz h0 ha hm
    have hv':v'=.slice (some (s.next,0)) (n+m) none:=by
      rcases hg'.ex with⟨_,h0'⟩ | ⟨h1',_⟩
      · omega
      · exact h1'
    refine⟨v',s',s.next::p'.toList,by rw[Me ht hs hb h0 hx hsrc hc h1 h2];exact happ,.inr ⟨s.next,p',hv',hg',rfl⟩,hn',fun j hj hjO=>?_,fun j hj=>?_,by rw[hv'];rfl⟩
    · exact hap.2 j hj (hi j hj hjO).1 (hi j hj hjO).2
    · rcases bv.1            hj with rfl | hj
      · exact .inr (bM _)
      · rcases hp' with rfl | rfl
        · cases hj
        · simp at hj;subst hj;exact hO _ (.inl rfl)
  rcases h with⟨rfl,rfl,rfl,rfl⟩ | ⟨i,p,rfl,hg,rfl⟩
  · exact key s.next none (FL.zero _ _ _ _ _ _ _) (fun j hj _=>⟨by omega,by simp⟩) (fun j hj=>by rcases hj with rfl | hj;exact .inr (bM _);cases hj)
  · refine key i p hg (fun j hj hjO => ⟨fun e => hjO (by simp [e]), fun e => hjO (by simp [e])⟩) (fun j hj => ?_)
    rcases hj with rfl | rfl<;>simp
end
end
end Go.Proofs.YtickdehehcmfbaaGreatDoor.Am
set_option linter.unusedVariables false
set_option linter.unusedSimpArgs false
set_option maxRecDepth 100000
namespace Go.Proofs.YtickdehehcmfbaaGreatDoor.Am
open Go Go.Proofs
noncomputable section
theorem Fy:Ap Tryz.prog 3=some 1:=by kernel_rfl
theorem ab:Bz Tryz.prog 3=some 8:=by kernel_rfl
theorem C3:Da Tryz.prog 3=some false:=by kernel_rfl
theorem zr3:CI Tryz.prog 3=some (.int .i64 (0)):=by kernel_rfl
theorem aY:Ap Tryz.prog 9=some 1:=by kernel_rfl
theorem ac:Bz Tryz.prog 9=some 16:=by kernel_rfl
theorem aK:Da Tryz.prog 9=some false:=by kernel_rfl
theorem IM(i o:Nat):AA Tryz.prog 62 (.ptr (some (i,o))) 0=some (.ptr (some (i,o+0))):=by kernel_rfl
theorem SZ(i o:Nat):AA Tryz.prog 62 (.ptr (some (i,o))) 1=some (.ptr (some (i,o+1))):=by kernel_rfl
theorem JJ:Ap Tryz.prog 70=some 16:=by kernel_rfl
theorem aN:Bz Tryz.prog 70=some 184:=by kernel_rfl
theorem PA:Da Tryz.prog 70=some true:=by kernel_rfl
theorem Ts:CI Tryz.prog 70=some (.agg [(.int .i64 (0)),(.int .i64 (0)),(.int .i64 (0)),(.int .i64 (0)),(.int .i64 (0)),(.str []),(.int .i64 (0)),(.bool false),(.str []),(.str []),(.slice none 0 (some 0)),(.slice none 0 (some 0)),(.int .i64 (0)),(.int .i64 (0)),(.int .i64 (0)),(.map none)]):=by kernel_rfl
theorem Gv(i o:Nat):AA Tryz.prog 70 (.ptr (some (i,o))) 0=some (.ptr (some (i,o+0))):=by kernel_rfl
theorem Sb(cs:List AV):CN Tryz.prog 70 (.agg cs) 0=some (.agg ((cs.drop 0).take 6)):=by kernel_rfl
theorem Yq(cs:List AV):CN Tryz.prog 70 (.agg cs) 1=some (.agg ((cs.drop 6).take 7)):=by kernel_rfl
theorem M5(i o:Nat):AA Tryz.prog 70 (.ptr (some (i,o))) 2=some (.ptr (some (i,o+13))):=by kernel_rfl
theorem M6(i o:Nat):AA Tryz.prog 70 (.ptr (some (i,o))) 3=some (.ptr (some (i,o+14))):=by kernel_rfl
theorem Yr(cs:List AV):CN Tryz.prog 70 (.agg cs) 3=cs[14]? := by kernel_rfl
theorem Sa(i o:Nat):AA Tryz.prog 70 (.ptr (some (i,o))) 4=some (.ptr (some (i,o+15))):=by kernel_rfl
theorem aX:Ap Tryz.prog 59=some 1:=by kernel_rfl
theorem QQ:Da Tryz.prog 59=some false:=by kernel_rfl
theorem Y8:Ap Tryz.prog 65=some 6:=by kernel_rfl
theorem X2:Da Tryz.prog 65=some true:=by kernel_rfl
theorem Gu(i o:Nat):AA Tryz.prog 65 (.ptr (some (i,o))) 0=some (.ptr (some (i,o+0))):=by kernel_rfl
theorem Yo(cs:List AV):CN Tryz.prog 65 (.agg cs) 0=cs[0]? := by kernel_rfl
theorem M4(i o:Nat):AA Tryz.prog 65 (.ptr (some (i,o))) 1=some (.ptr (some (i,o+1))):=by kernel_rfl
theorem Yp(cs:List AV):CN Tryz.prog 65 (.agg cs) 1=cs[1]? := by kernel_rfl
theorem Kd(i o:Nat):AA Tryz.prog 65 (.ptr (some (i,o))) 2=some (.ptr (some (i,o+2))):=by kernel_rfl
theorem Yl(i o:Nat):AA Tryz.prog 65 (.ptr (some (i,o))) 3=some (.ptr (some (i,o+5))):=by kernel_rfl
theorem ZO:Da Tryz.prog 60=some false:=by kernel_rfl
theorem X3:Da Tryz.prog 68=some false:=by kernel_rfl
theorem Md:Da Tryz.prog 27=some false:=by kernel_rfl
theorem HF:Ap Tryz.prog 43=some 7:=by kernel_rfl
theorem Hl:Da Tryz.prog 43=some true:=by kernel_rfl
theorem ZC:CI Tryz.prog 43=some (.agg [(.int .i64 (0)),(.bool false),(.str []),(.str []),(.slice none 0 (some 0)),(.slice none 0 (some 0)),(.int .i64 (0))]):=by kernel_rfl
theorem SW(i o:Nat):AA Tryz.prog 43 (.ptr (some (i,o))) 0=some (.ptr (some (i,o+0))):=by kernel_rfl
theorem SX(i o:Nat):AA Tryz.prog 43 (.ptr (some (i,o))) 4=some (.ptr (some (i,o+4))):=by kernel_rfl
def U2:List AC:=[
 ⟨none,.p1 some,[(.const (.int .i64 (0)))],(.set 1),[]⟩]
def U3:List AC:=[
 ⟨none,.p2 (AO Tryz.prog .eql 25),[(.var 0),(.const (.ptr none))],(.set 2),[]⟩]
def ZT:List AC:=[
 ⟨none,.p1 some,[(.const (.int .i64 (0)))],(.set 1),[]⟩]
def U4:List AC:=[
 ⟨none,.p1 AY,[.var 0],.push,[]⟩,
 ⟨none,.p1 (fun x=>AA Tryz.prog 62 x 0),[.loc 0],.push,[]⟩,
 ⟨none,.r1 (fun s a=>AK Tryz.prog s 59 a),[.loc 0],.push,[]⟩,
 ⟨none,.r (fun s l=>match l with | [x]=>BY Tryz.prog s 59 x | _=>none),[.loc 0],.push,[]⟩,
 ⟨none,.p1 some,[.loc 0],(.set 1),[]⟩]
def ZR:At:=⟨1,3,(.seq (.ops U2) (.seq (.seq (.ops U3) (.cond (.var 2)
 (.seq (.ops ZT) .ret)
 .skip)) (.seq (.ops U4) .ret))),[((.var 1),none)]⟩
def U5:List AC:=[
 ⟨none,.p1 some,[(.const (.int .i64 (0)))],(.set 2),[]⟩]
def U6:List AC:=[
 ⟨none,.p2 (AO Tryz.prog .eql 25),[(.var 0),(.const (.ptr none))],(.set 3),[]⟩]
def ZV:List AC:=[
 ⟨none,.p1 some,[(.const (.int .i64 (0)))],(.set 2),[]⟩]
def U7:List AC:=[
 ⟨none,.p (fun l=>AR Tryz.prog 65 (zipIdx [0,1] l)),[(.const (.int .i64 (0))),(.var 1)],.push,[]⟩,
 ⟨none,.p (fun l=>AR Tryz.prog 43 (zipIdx [] l)),[],.push,[]⟩,
 ⟨none,.call 32,[(.var 0),(.loc 1),(.loc 0),(.const (.slice none 0 (some 0)))],.push,[]⟩,
 ⟨none,.p1 some,[.loc 0],(.set 2),[]⟩]
def ZU:At:=⟨2,4,(.seq (.ops U5) (.seq (.seq (.ops U6) (.cond (.var 3)
 (.seq (.ops ZV) .ret)
 .skip)) (.seq (.ops U7) .ret))),[((.var 2),none)]⟩
def U8:List AC:=[
 ⟨none,.p1 some,[(.const (.int .i64 (0)))],(.set 2),[]⟩]
def U9:List AC:=[
 ⟨none,.call 39,[.var 0,.var 1],.push,[]⟩,
 ⟨none,.p1 (fun x=>CN Tryz.prog 70 x 3),[.loc 0],.push,[]⟩,
 ⟨none,.p1 some,[.loc 0],(.set 2),[]⟩]
def ae:At:=⟨2,3,(.seq (.ops U8) (.seq (.ops U9) .ret)),[((.var 2),none)]⟩
def VM:List AC:=[
 ⟨none,.p1 some,[(.const (.slice none 0 (some 0)))],(.set 2),[]⟩]
def VN:List AC:=[
 ⟨none,.call 39,[.var 0,.var 1],.push,[]⟩,
 ⟨none,.mk (fun l=>match l with | []=>Bo Tryz.prog 70 | _=>none),[],(.set 3),[]⟩,
 ⟨none,.e (fun s=>Xs (fun a x=>Xu (As Tryz.prog s 70 a x))),[.var 3,.loc 0],.push,[]⟩]
def VO:List AC:=[
 ⟨none,.p1 (fun x=>AA Tryz.prog 70 x 0),[.var 3],.push,[]⟩,
 ⟨none,.p1 (fun x=>AA Tryz.prog 65 x 2),[.loc 0],.push,[]⟩,
 ⟨none,.p1 (fun x=>AA Tryz.prog 70 x 2),[.var 3],.push,[]⟩,
 ⟨none,.r1 (fun s a=>AK Tryz.prog s 3 a),[.loc 0],.push,[]⟩,
 ⟨none,.r (Ar Tryz.prog 44 false true false),[.loc 2,.loc 0],.push,[]⟩,
 ⟨none,.call 43,[.loc 0],.push,[]⟩,
 ⟨none,.p1 some,[.loc 0],(.set 2),[]⟩]
def ah:At:=⟨2,4,(.seq (.ops VM) (.seq (.ops VN) (.seq (.ops VO) .ret))),[((.var 2),none)]⟩
def VP:List AC:=[
 ⟨none,.p1 some,[(.const (.int .i64 (0)))],(.set 2),[]⟩]
def VQ:List AC:=[
 ⟨none,.call 39,[.var 0,.var 1],.push,[]⟩,
 ⟨none,.p1 (fun x=>CN Tryz.prog 70 x 0),[.loc 0],.push,[]⟩,
 ⟨none,.p1 (fun x=>CN Tryz.prog 65 x 0),[.loc 0],.push,[]⟩,
 ⟨none,.p1 some,[.loc 0],(.set 2),[]⟩]
def ai:At:=⟨2,3,(.seq (.ops VP) (.seq (.ops VQ) .ret)),[((.var 2),none)]⟩
def VR:List AC:=[
 ⟨none,.p1 some,[(.const (.int .i64 (0)))],(.set 2),[]⟩]
def VS:List AC:=[
 ⟨none,.call 39,[.var 0,.var 1],.push,[]⟩,
 ⟨none,.p1 (fun x=>CN Tryz.prog 70 x 0),[.loc 0],.push,[]⟩,
 ⟨none,.p1 (fun x=>CN Tryz.prog 65 x 1),[.loc 0],.push,[]⟩,
 ⟨none,.p1 some,[.loc 0],(.set 2),[]⟩]
def aj:At:=⟨2,3,(.seq (.ops VR) (.seq (.ops VS) .ret)),[((.var 2),none)]⟩
def VT:List AC:=[
 ⟨none,.p1 some,[(.const (.int .i64 (0)))],(.set 2),[]⟩]
def VU:List AC:=[
 ⟨none,.p2 (AO Tryz.prog .eql 25),[(.var 0),(.const (.ptr none))],(.set 3),[]⟩]
def ZW:List AC:=[
 ⟨none,.p1 some,[(.const (.int .i64 (0)))],(.set 2),[]⟩]
def VV:List AC:=[
 ⟨none,.p (fun l=>match l with | v::l=>B9 true v l | []=>none),[(.var 1),(.const (.int .i64 (0)))],.push,[]⟩,
 ⟨none,.p (fun l=>AR Tryz.prog 65 (zipIdx [0,1] l)),[(.const (.int .i64 (1))),(.loc 0)],.push,[]⟩,
 ⟨none,.p (fun l=>AR Tryz.prog 43 (zipIdx [] l)),[],.push,[]⟩,
 ⟨none,.call 32,[(.var 0),(.loc 1),(.loc 0),(.const (.slice none 0 (some 0)))],.push,[]⟩,
 ⟨none,.p1 some,[.loc 0],(.set 2),[]⟩]
def ak:At:=⟨2,4,(.seq (.ops VT) (.seq (.seq (.ops VU) (.cond (.var 3)
 (.seq (.ops ZW) .ret)
 .skip)) (.seq (.ops VV) .ret))),[((.var 2),none)]⟩
def VW:List AC:=[
 ⟨none,.mk (fun l=>match l with | [v]=>EY 43 v | _=>none),[.var 1],(.set 2),[]⟩,
 ⟨none,.p1 some,[(.const (.int .i64 (0)))],(.set 3),[]⟩]
def VX:List AC:=[
 ⟨none,.p2 (AO Tryz.prog .eql 25),[(.var 0),(.const (.ptr none))],(.set 4),[]⟩]
def ZX:List AC:=[
 ⟨none,.p1 some,[(.const (.int .i64 (0)))],(.set 3),[]⟩]
def VY:List AC:=[
 ⟨none,.r1 (fun s a=>AK Tryz.prog s 43 a),[.var 2],.push,[]⟩,
 ⟨none,.call 44,[.loc 0],.push,[]⟩,
 ⟨none,.p1 (Uu Tryz.prog Go.UnOp.not),[.loc 0],.push,[]⟩,
 ⟨(some ((.loc 0),false)),.p1 (fun x=>AA Tryz.prog 43 x 0),[.var 2],.push,[]⟩,
 ⟨(some ((.loc 1),false)),.r1 (fun s a=>AK Tryz.prog s 3 a),[.loc 0],.push,[]⟩,
 ⟨(some ((.loc 2),false)),.p2 (AO Tryz.prog .eql 3),[(.loc 0),(.const (.int .i64 (5)))],.push,[]⟩,
 ⟨none,.p Rn,[(.loc 3),(.const (.bool true)),(.loc 0)],.push,[]⟩,
 ⟨(some ((.loc 0),false)),.p1 (fun x=>AA Tryz.prog 43 x 4),[.var 2],.push,[]⟩,
 ⟨(some ((.loc 1),false)),.r1 (fun s a=>AK Tryz.prog s 39 a),[.loc 0],.push,[]⟩,
 ⟨(some ((.loc 2),false)),.r (fun s l=>match l with | [x]=>BY Tryz.prog s 39 x | _=>none),[.loc 0],.push,[]⟩,
 ⟨(some ((.loc 3),false)),.p2 (AO Tryz.prog .gtr 3),[(.loc 0),(.const (.int .i64 (0)))],.push,[]⟩,
 ⟨none,.p Rn,[(.loc 4),(.const (.bool true)),(.loc 0)],(.set 5),[]⟩]
def ZY:List AC:=[
 ⟨none,.p (fun l=>AR Tryz.prog 43 (zipIdx [] l)),[],.push,[]⟩,
 ⟨none,.e (fun s=>Xs (fun a x=>Xu (As Tryz.prog s 43 a x))),[.var 2,.loc 0],.push,[]⟩]
def VZ:List AC:=[
 ⟨none,.r1 (fun s a=>AK Tryz.prog s 43 a),[.var 2],.push,[]⟩,
 ⟨none,.r1 (fun s a=>AK Tryz.prog s 43 a),[.var 2],.push,[]⟩,
 ⟨none,.call 30,[.loc 1],.push,[⟨none,.r1 (fun s a=>AK Tryz.prog s 43 a),[.var 2],(.loc 1)⟩]⟩,
 ⟨none,.p (fun l=>AR Tryz.prog 65 (zipIdx [0,3] l)),[(.const (.int .i64 (2))),(.loc 0)],.push,[]⟩,
 ⟨none,.call 32,[(.var 0),(.loc 0),(.loc 2),(.const (.slice none 0 (some 0)))],.push,[]⟩,
 ⟨none,.p1 some,[.loc 0],(.set 3),[]⟩]
def am:At:=⟨2,6,(.seq (.ops VW) (.seq (.seq (.ops VX) (.cond (.var 4)
 (.seq (.ops ZX) .ret)
 .skip)) (.seq (.seq (.ops VY) (.cond (.var 5)
 (.ops ZY)
 .skip)) (.seq (.ops VZ) .ret)))),[((.var 3),none)]⟩
def Va:List AC:=[
 ⟨none,.mk (fun l=>match l with | []=>Bo Tryz.prog 43 | _=>none),[],(.set 2),[]⟩]
def Vb:List AC:=[
 ⟨none,.call 39,[.var 0,.var 1],.push,[]⟩,
 ⟨none,.p1 (fun x=>CN Tryz.prog 70 x 1),[.loc 0],.push,[]⟩,
 ⟨none,.e (fun s=>Xs (fun a x=>Xu (As Tryz.prog s 43 a x))),[.var 2,.loc 0],.push,[]⟩]
def ao:At:=⟨2,3,(.seq (.ops Va) (.seq (.ops Vb) .ret)),[((.var 2),some 43)]⟩
def Vc:List AC:=[
 ⟨none,.p1 some,[(.const (.int .i64 (0)))],(.set 3),[]⟩]
def Vd:List AC:=[
 ⟨none,.p2 (AO Tryz.prog .eql 25),[(.var 0),(.const (.ptr none))],(.set 4),[]⟩]
def ZZ:List AC:=[
 ⟨none,.p1 some,[(.const (.int .i64 (0)))],(.set 3),[]⟩]
def Ve:List AC:=[
 ⟨none,.p (fun l=>AR Tryz.prog 65 (zipIdx [0] l)),[(.const (.int .i64 (3)))],.push,[]⟩,
 ⟨none,.p (fun l=>AR Tryz.prog 43 (zipIdx [] l)),[],.push,[]⟩,
 ⟨none,.mk (fun l=>(Aa Tryz.prog 27 2 (zipIdx [0,1] l)).bind fun r=>some (r,.slice 2)),[.var 1,.var 2],.push,[]⟩,
 ⟨none,.call 34,[.var 0,.loc 0],.push,[]⟩,
 ⟨none,.call 32,[.var 0,.loc 3,.loc 2,.loc 0],.push,[]⟩,
 ⟨none,.p1 some,[.loc 0],(.set 3),[]⟩]
def ap:At:=⟨3,5,(.seq (.ops Vc) (.seq (.seq (.ops Vd) (.cond (.var 4)
 (.seq (.ops ZZ) .ret)
 .skip)) (.seq (.ops Ve) .ret))),[((.var 3),none)]⟩
def Vf:List AC:=[
 ⟨none,.p1 some,[(.const (.int .i64 (0)))],(.set 4),[]⟩]
def Vg:List AC:=[
 ⟨none,.p2 (AO Tryz.prog .eql 25),[(.var 0),(.const (.ptr none))],(.set 5),[]⟩]
def Za:List AC:=[
 ⟨none,.p1 some,[(.const (.int .i64 (0)))],(.set 4),[]⟩]
def Vh:List AC:=[
 ⟨none,.p (fun l=>AR Tryz.prog 65 (zipIdx [0] l)),[(.const (.int .i64 (4)))],.push,[]⟩,
 ⟨none,.p (fun l=>AR Tryz.prog 43 (zipIdx [] l)),[],.push,[]⟩,
 ⟨none,.mk (fun l=>(Aa Tryz.prog 27 3 (zipIdx [0,1,2] l)).bind fun r=>some (r,.slice 3)),[.var 1,.var 2,.var 3],.push,[]⟩,
 ⟨none,.call 34,[.var 0,.loc 0],.push,[]⟩,
 ⟨none,.call 32,[.var 0,.loc 3,.loc 2,.loc 0],.push,[]⟩,
 ⟨none,.p1 some,[.loc 0],(.set 4),[]⟩]
def aq:At:=⟨4,6,(.seq (.ops Vf) (.seq (.seq (.ops Vg) (.cond (.var 5)
 (.seq (.ops Za) .ret)
 .skip)) (.seq (.ops Vh) .ret))),[((.var 4),none)]⟩
def Vi:List AC:=[
 ⟨none,.p1 some,[(.const (.str []))],(.set 2),[]⟩]
def Vj:List AC:=[
 ⟨none,.call 39,[.var 0,.var 1],.push,[]⟩,
 ⟨none,.mk (fun l=>match l with | []=>Bo Tryz.prog 70 | _=>none),[],(.set 3),[]⟩,
 ⟨none,.e (fun s=>Xs (fun a x=>Xu (As Tryz.prog s 70 a x))),[.var 3,.loc 0],.push,[]⟩]
def RA:List AC:=[
 ⟨none,.p2 (AO Tryz.prog .eql 25),[(.var 0),(.const (.ptr none))],.push,[]⟩,
 ⟨(some ((.loc 0),false)),.p1 (fun x=>AA Tryz.prog 70 x 3),[.var 3],.push,[]⟩,
 ⟨(some ((.loc 1),false)),.r1 (fun s a=>AK Tryz.prog s 3 a),[.loc 0],.push,[]⟩,
 ⟨(some ((.loc 2),false)),.p2 (AO Tryz.prog .gtr 3),[(.loc 0),(.const (.int .i64 (4096)))],.push,[]⟩,
 ⟨none,.p Rn,[(.loc 3),(.const (.bool true)),(.loc 0)],(.set 7),[]⟩]
def Vk:List AC:=[
 ⟨none,.p1 some,[(.const (.str []))],(.set 2),[]⟩]
def JV:List AC:=[
 ⟨none,.p1 some,[(.const (.str [40,115,101,116]))],(.set 4),[]⟩]
def JW:List AC:=[
 ⟨none,.p1 (fun x=>AA Tryz.prog 70 x 0),[.var 3],.push,[]⟩,
 ⟨none,.p1 (fun x=>AA Tryz.prog 65 x 0),[.loc 0],.push,[]⟩,
 ⟨none,.r1 (fun s a=>AK Tryz.prog s 3 a),[.loc 0],(.set 8),[]⟩]
def JX:List AC:=[
 ⟨none,.p2 (AO Tryz.prog .eql 3),[(.var 8),(.const (.int .i64 (0)))],.push,[]⟩,
 ⟨none,.p1 some,[.loc 0],(.set 9),[]⟩]
def Vl:List AC:=[
 ⟨none,.p1 (fun x=>AA Tryz.prog 70 x 0),[.var 3],.push,[]⟩,
 ⟨none,.p1 (fun x=>AA Tryz.prog 65 x 1),[.loc 0],.push,[]⟩,
 ⟨none,.r1 (fun s a=>AK Tryz.prog s 3 a),[.loc 0],.push,[]⟩,
 ⟨none,.call 45,[.loc 0],.push,[]⟩,
 ⟨none,.p2 (AO Tryz.prog .add 9),[(.const (.str [120])),(.loc 0)],.push,[]⟩,
 ⟨none,.p1 some,[.loc 0],(.set 2),[]⟩]
def LM:List AC:=[
 ⟨none,.p2 (AO Tryz.prog .eql 3),[(.var 8),(.const (.int .i64 (1)))],.push,[]⟩,
 ⟨none,.p1 some,[.loc 0],(.set 10),[]⟩]
def Vm:List AC:=[
 ⟨none,.p1 (fun x=>AA Tryz.prog 70 x 0),[.var 3],.push,[]⟩,
 ⟨none,.p1 (fun x=>AA Tryz.prog 65 x 1),[.loc 0],.push,[]⟩,
 ⟨none,.r1 (fun s a=>AK Tryz.prog s 3 a),[.loc 0],.push,[]⟩,
 ⟨none,.call 45,[.loc 0],.push,[]⟩,
 ⟨none,.p2 (AO Tryz.prog .add 9),[(.const (.str [98])),(.loc 0)],.push,[]⟩,
 ⟨none,.p1 some,[.loc 0],(.set 2),[]⟩]
def KS:List AC:=[
 ⟨none,.p2 (AO Tryz.prog .eql 3),[(.var 8),(.const (.int .i64 (2)))],.push,[]⟩,
 ⟨none,.p1 some,[.loc 0],(.set 11),[]⟩]
def Q8:List AC:=[
 ⟨none,.p1 (fun x=>AA Tryz.prog 70 x 0),[.var 3],.push,[]⟩,
 ⟨none,.p1 (fun x=>AA Tryz.prog 65 x 3),[.loc 0],.push,[]⟩,
 ⟨none,.r1 (fun s a=>AK Tryz.prog s 9 a),[.loc 0],.push,[]⟩,
 ⟨none,.p1 some,[.loc 0],(.set 2),[]⟩]
def Ml:List AC:=[
 ⟨none,.p2 (AO Tryz.prog .eql 3),[(.var 8),(.const (.int .i64 (3)))],.push,[]⟩,
 ⟨none,.p1 some,[.loc 0],(.set 12),[]⟩]
def Q9:List AC:=[
 ⟨none,.p1 some,[(.const (.str [40,103,101,116]))],(.set 4),[]⟩]
def Mm:List AC:=[
 ⟨none,.mk (fun l=>(Aa Tryz.prog 39 1 (zipIdx [0] l)).bind fun r=>some (r,.slice 1)),[.var 4],.push,[]⟩,
 ⟨none,.p1 some,[.loc 0],(.set 5),[]⟩]
def Mn:List AC:=[
 ⟨none,.p1 (fun x=>AA Tryz.prog 70 x 0),[.var 3],.push,[]⟩,
 ⟨none,.p1 (fun x=>AA Tryz.prog 65 x 2),[.loc 0],.push,[]⟩,
 ⟨none,.p1 (fun x=>AA Tryz.prog 70 x 2),[.var 3],.push,[]⟩,
 ⟨none,.r1 (fun s a=>AK Tryz.prog s 3 a),[.loc 0],.push,[]⟩,
 ⟨none,.r (Ar Tryz.prog 44 false true false),[.loc 2,.loc 0],(.set 13),[]⟩,
 ⟨none,.r (fun s l=>match l with | [x]=>BY Tryz.prog s 27 x | _=>none),[.var 13],(.set 14),[]⟩,
 ⟨none,.p1 some,[(.const (.int .i64 (0)))],(.set 15),[]⟩]
def KT:List AC:=[
 ⟨none,.p2 (AO Tryz.prog .lss 3),[.var 15,.var 14],(.set 16),[]⟩]
def Mo:List AC:=[
 ⟨none,.p2 (AH Tryz.prog 27),[.var 13,.var 15],.push,[]⟩,
 ⟨none,.r1 (fun s a=>AK Tryz.prog s 3 a),[.loc 0],.push,[]⟩,
 ⟨none,.p1 some,[.loc 0],(.set 6),[]⟩]
def Mp:List AC:=[
 ⟨none,.p1 some,[.var 5],.push,[]⟩,
 ⟨none,.call 26,[.var 0,.var 6],.push,[]⟩,
 ⟨none,.mk (fun l=>(Aa Tryz.prog 39 1 (zipIdx [0] l)).bind fun r=>some (r,.slice 1)),[.loc 0],.push,[]⟩,
 ⟨none,.e (fun s l=>Ay Tryz.prog s [39,39] l),[.loc 2,.loc 0],.push,[]⟩,
 ⟨none,.p1 some,[.loc 0],(.set 5),[]⟩]
def Mq:List AC:=[
 ⟨none,.p2 (AO Tryz.prog .add 3),[(.var 15),(.const (.int .i64 (1)))],.push,[]⟩,
 ⟨none,.p1 some,[.loc 0],(.set 15),[]⟩]
def Ea:AU:=(.seq (.ops KT) (.seq (.cond (.var 16)
 .skip
 (.exit 1)) (.seq (.block 2 (.seq (.ops Mo) (.ops Mp))) (.ops Mq))))
def Mr:List AC:=[
 ⟨none,.call 46,[(.var 5),(.const (.str [32]))],.push,[]⟩,
 ⟨none,.p2 (AO Tryz.prog .add 9),[(.loc 0),(.const (.str [41]))],.push,[]⟩,
 ⟨none,.p1 some,[.loc 0],(.set 2),[]⟩]
def ar:At:=⟨2,17,(.seq (.ops Vi) (.seq (.ops Vj) (.seq (.seq (.ops RA) (.cond (.var 7)
 (.seq (.ops Vk) .ret)
 .skip)) (.seq (.ops JV) (.seq (.seq (.ops JW) (.block 0 (.seq (.ops JX) (.cond (.var 9)
 (.seq (.ops Vl) .ret)
 (.seq (.ops LM) (.cond (.var 10)
 (.seq (.ops Vm) .ret)
 (.seq (.ops KS) (.cond (.var 11)
 (.seq (.ops Q8) .ret)
 (.seq (.ops Ml) (.cond (.var 12)
 (.ops Q9)
 .skip)))))))))) (.seq (.ops Mm) (.seq (.seq (.ops Mn) (.block 1 (.loop Ea))) (.seq (.ops Mr) .ret)))))))),[((.var 2),none)]⟩
def Vn:List AC:=[
 ⟨none,.p1 some,[(.const (.ptr none))],(.set 0),[]⟩]
def Vo:List AC:=[
 ⟨none,.mk (fun l=>match l with | []=>(Dy Tryz.prog 60).bind fun kt=>some (.map kt [],.map) | _=>none),[],.push,[]⟩,
 ⟨none,.p (fun l=>AR Tryz.prog 62 (zipIdx [1] l)),[.loc 0],.push,[]⟩,
 ⟨none,.mk (fun l=>match l with | [v]=>EY 62 v | _=>none),[.loc 0],.push,[]⟩,
 ⟨none,.p1 some,[.loc 0],(.set 0),[]⟩]
def au:At:=⟨0,1,(.seq (.ops Vn) (.seq (.ops Vo) .ret)),[((.var 0),none)]⟩
def Vp:List AC:=[
 ⟨none,.mk (fun l=>match l with | [v]=>EY 65 v | _=>none),[.var 1],(.set 4),[]⟩,
 ⟨none,.mk (fun l=>match l with | [v]=>EY 43 v | _=>none),[.var 2],(.set 5),[]⟩,
 ⟨none,.p1 some,[(.const (.int .i64 (0)))],(.set 6),[]⟩]
def Vq:List AC:=[
 ⟨none,.p1 (fun x=>AA Tryz.prog 65 x 2),[.var 4],.push,[]⟩,
 ⟨none,.r (Ar Tryz.prog 44 false false false),[.loc 0],.push,[]⟩,
 ⟨none,.e (fun s l=>II Tryz.prog s [27,27] l),[.loc 0,.var 3],.push,[]⟩]
def Vr:List AC:=[
 ⟨none,.p1 AY,[.var 0],.push,[]⟩,
 ⟨none,.p1 (fun x=>AA Tryz.prog 62 x 1),[.loc 0],.push,[]⟩,
 ⟨none,.r1 (fun s a=>AK Tryz.prog s 60 a),[.loc 0],.push,[]⟩,
 ⟨none,.r1 (fun s a=>AK Tryz.prog s 65 a),[.var 4],.push,[]⟩,
 ⟨none,.r (fun s=>Xs (fun m k=>Cp Tryz.prog s 60 m k true)),[.loc 1,.loc 0],.push,[]⟩,
 ⟨none,.p1 (fun x=>Xv x 0),[.loc 0],.push,[]⟩,
 ⟨none,.p1 (fun x=>Xv x 1),[.loc 1],.push,[]⟩,
 ⟨none,.p1 some,[.loc 1],(.set 7),[]⟩,
 ⟨none,.p1 some,[.loc 0],(.set 8),[]⟩]
def RG:List AC:=[
 ⟨none,.p1 some,[.var 8],(.set 11),[]⟩]
def Vs:List AC:=[
 ⟨none,.p1 some,[.var 7],(.set 6),[]⟩]
def Vt:List AC:=[
 ⟨none,.r1 (fun s a=>AK Tryz.prog s 65 a),[.var 4],.push,[]⟩,
 ⟨none,.r1 (fun s a=>AK Tryz.prog s 43 a),[.var 5],.push,[]⟩,
 ⟨none,.r (fun s l=>match l with | [x]=>BY Tryz.prog s 27 x | _=>none),[.var 3],.push,[]⟩,
 ⟨none,.mk (fun l=>match l with | []=>(Dy Tryz.prog 68).bind fun kt=>some (.map kt [],.map) | _=>none),[],.push,[]⟩,
 ⟨none,.p (fun l=>AR Tryz.prog 70 (zipIdx [0,1,2,3,4] l)),[(.loc 3),(.loc 2),(.loc 1),(.const (.int .i64 (1))),(.loc 0)],.push,[]⟩,
 ⟨none,.mk (fun l=>match l with | []=>Bo Tryz.prog 70 | _=>none),[],(.set 9),[]⟩,
 ⟨none,.e (fun s=>Xs (fun a x=>Xu (As Tryz.prog s 70 a x))),[.var 9,.loc 0],.push,[]⟩]
def Vu:List AC:=[
 ⟨none,.p1 (fun x=>AA Tryz.prog 65 x 0),[.var 4],.push,[]⟩,
 ⟨none,.r1 (fun s a=>AK Tryz.prog s 3 a),[.loc 0],.push,[]⟩,
 ⟨none,.p2 (AO Tryz.prog .eql 3),[(.loc 0),(.const (.int .i64 (0)))],(.set 12),[]⟩]
def Vv:List AC:=[
 ⟨none,.p1 (fun x=>AA Tryz.prog 70 x 4),[.var 9],.push,[]⟩,
 ⟨none,.r1 (fun s a=>AK Tryz.prog s 68 a),[.loc 0],.push,[]⟩,
 ⟨none,.p1 (fun x=>AA Tryz.prog 65 x 1),[.var 4],.push,[]⟩,
 ⟨none,.r1 (fun s a=>AK Tryz.prog s 3 a),[.loc 0],.push,[]⟩,
 ⟨none,.e (fun s=>Xt (fun m k x=>Xu (Cq Tryz.prog s 68 m k x))),[(.loc 2),(.loc 0),(.const (.int .i64 (1)))],.push,[]⟩]
def RH:List AC:=[
 ⟨none,.p1 some,[.var 3],(.set 13),[]⟩,
 ⟨none,.r (fun s l=>match l with | [x]=>BY Tryz.prog s 27 x | _=>none),[.var 13],(.set 14),[]⟩,
 ⟨none,.p1 some,[(.const (.int .i64 (0)))],(.set 15),[]⟩]
def RI:List AC:=[
 ⟨none,.p2 (AO Tryz.prog .lss 3),[.var 15,.var 14],(.set 16),[]⟩]
def RC:List AC:=[
 ⟨none,.p2 (AH Tryz.prog 27),[.var 13,.var 15],.push,[]⟩,
 ⟨none,.r1 (fun s a=>AK Tryz.prog s 3 a),[.loc 0],.push,[]⟩,
 ⟨none,.p1 some,[.loc 0],(.set 10),[]⟩]
def RD:List AC:=[
 ⟨none,.p1 (fun x=>AA Tryz.prog 70 x 3),[.var 9],.push,[]⟩,
 ⟨none,.r1 (fun s a=>AK Tryz.prog s 3 a),[.loc 0],.push,[]⟩,
 ⟨none,.p1 AY,[.var 0],.push,[]⟩,
 ⟨none,.p1 (fun x=>AA Tryz.prog 62 x 0),[.loc 0],.push,[]⟩,
 ⟨none,.r1 (fun s a=>AK Tryz.prog s 59 a),[.loc 0],.push,[]⟩,
 ⟨none,.p2 (AH Tryz.prog 59),[.loc 0,.var 10],.push,[]⟩,
 ⟨none,.p1 (fun x=>AA Tryz.prog 70 x 3),[.loc 0],.push,[]⟩,
 ⟨none,.r1 (fun s a=>AK Tryz.prog s 3 a),[.loc 0],.push,[]⟩,
 ⟨none,.p2 (AO Tryz.prog .add 3),[.loc 6,.loc 0],.push,[]⟩,
 ⟨none,.p (fun l=>match l with | v::l=>B9 false v l | []=>none),[(.loc 0),(.const (.int .i64 (4097)))],.push,[]⟩,
 ⟨none,.p1 (fun x=>AA Tryz.prog 70 x 3),[.var 9],.push,[]⟩,
 ⟨none,.e (fun s=>Xs (fun a x=>Xu (As Tryz.prog s 3 a x))),[.loc 0,.loc 1],.push,[]⟩]
def RE:List AC:=[
 ⟨none,.p1 (fun x=>AA Tryz.prog 70 x 4),[.var 9],.push,[]⟩,
 ⟨none,.r1 (fun s a=>AK Tryz.prog s 68 a),[.loc 0],.push,[]⟩,
 ⟨none,.p1 AY,[.var 0],.push,[]⟩,
 ⟨none,.p1 (fun x=>AA Tryz.prog 62 x 0),[.loc 0],.push,[]⟩,
 ⟨none,.r1 (fun s a=>AK Tryz.prog s 59 a),[.loc 0],.push,[]⟩,
 ⟨none,.p2 (AH Tryz.prog 59),[.loc 0,.var 10],.push,[]⟩,
 ⟨none,.p1 (fun x=>AA Tryz.prog 70 x 4),[.loc 0],.push,[]⟩,
 ⟨none,.r1 (fun s a=>AK Tryz.prog s 68 a),[.loc 0],.push,[]⟩,
 ⟨none,.call 55,[.loc 6,.loc 0],.push,[]⟩]
def RF:List AC:=[
 ⟨none,.p2 (AO Tryz.prog .add 3),[(.var 15),(.const (.int .i64 (1)))],.push,[]⟩,
 ⟨none,.p1 some,[.loc 0],(.set 15),[]⟩]
def Gn:AU:=(.seq (.ops RI) (.seq (.cond (.var 16)
 .skip
 (.exit 0)) (.seq (.block 1 (.seq (.ops RC) (.seq (.ops RD) (.ops RE)))) (.ops RF))))
def KU:List AC:=[
 ⟨none,.p1 AY,[.var 0],.push,[]⟩,
 ⟨none,.p1 (fun x=>AA Tryz.prog 62 x 0),[.loc 0],.push,[]⟩,
 ⟨none,.r1 (fun s a=>AK Tryz.prog s 59 a),[.loc 0],.push,[]⟩,
 ⟨none,.r1 (fun s a=>AK Tryz.prog s 70 a),[.var 9],.push,[]⟩,
 ⟨none,.mk (fun l=>(Aa Tryz.prog 59 1 (zipIdx [0] l)).bind fun r=>some (r,.slice 1)),[.loc 0],.push,[]⟩,
 ⟨none,.e (fun s l=>Ay Tryz.prog s [59,59] l),[.loc 2,.loc 0],.push,[]⟩,
 ⟨none,.p1 AY,[.var 0],.push,[]⟩,
 ⟨none,.p1 (fun x=>AA Tryz.prog 62 x 0),[.loc 0],.push,[]⟩,
 ⟨none,.e (fun s=>Xs (fun a x=>Xu (As Tryz.prog s 59 a x))),[.loc 0,.loc 2],.push,[]⟩]
def KW:List AC:=[
 ⟨none,.p1 AY,[.var 0],.push,[]⟩,
 ⟨none,.p1 (fun x=>AA Tryz.prog 62 x 1),[.loc 0],.push,[]⟩,
 ⟨none,.r1 (fun s a=>AK Tryz.prog s 60 a),[.loc 0],.push,[]⟩,
 ⟨none,.r1 (fun s a=>AK Tryz.prog s 65 a),[.var 4],.push,[]⟩,
 ⟨none,.p1 AY,[.var 0],.push,[]⟩,
 ⟨none,.p1 (fun x=>AA Tryz.prog 62 x 0),[.loc 0],.push,[]⟩,
 ⟨none,.r1 (fun s a=>AK Tryz.prog s 59 a),[.loc 0],.push,[]⟩,
 ⟨none,.r (fun s l=>match l with | [x]=>BY Tryz.prog s 59 x | _=>none),[.loc 0],.push,[]⟩,
 ⟨none,.p2 (AO Tryz.prog .sub 3),[(.loc 0),(.const (.int .i64 (1)))],.push,[]⟩,
 ⟨none,.e (fun s=>Xt (fun m k x=>Xu (Cq Tryz.prog s 60 m k x))),[.loc 6,.loc 5,.loc 0],.push,[]⟩]
def KX:List AC:=[
 ⟨none,.p1 AY,[.var 0],.push,[]⟩,
 ⟨none,.p1 (fun x=>AA Tryz.prog 62 x 0),[.loc 0],.push,[]⟩,
 ⟨none,.r1 (fun s a=>AK Tryz.prog s 59 a),[.loc 0],.push,[]⟩,
 ⟨none,.r (fun s l=>match l with | [x]=>BY Tryz.prog s 59 x | _=>none),[.loc 0],.push,[]⟩,
 ⟨none,.p2 (AO Tryz.prog .sub 3),[(.loc 0),(.const (.int .i64 (1)))],.push,[]⟩,
 ⟨none,.p1 some,[.loc 0],(.set 6),[]⟩]
def aw:At:=⟨4,17,(.seq (.ops Vp) (.seq (.ops Vq) (.seq (.seq (.ops Vr) (.seq (.ops RG) (.cond (.var 11)
 (.seq (.ops Vs) .ret)
 .skip))) (.seq (.ops Vt) (.seq (.seq (.ops Vu) (.cond (.var 12)
 (.ops Vv)
 .skip)) (.seq (.seq (.ops RH) (.block 0 (.loop Gn))) (.seq (.ops KU) (.seq (.ops KW) (.seq (.ops KX) .ret))))))))),[((.var 6),none)]⟩
def Vw:List AC:=[
 ⟨none,.p1 some,[(.const (.slice none 0 (some 0)))],(.set 2),[]⟩]
def Vx:List AC:=[
 ⟨none,.call 10,[.var 0],.push,[]⟩,
 ⟨none,.p1 some,[.loc 0],(.set 3),[]⟩]
def Vy:List AC:=[
 ⟨none,.call 43,[.var 1],.push,[]⟩,
 ⟨none,.p1 some,[.loc 0],(.set 4),[]⟩]
def Vz:List AC:=[
 ⟨none,.p1 some,[.var 4],(.set 7),[]⟩,
 ⟨none,.r (fun s l=>match l with | [x]=>BY Tryz.prog s 27 x | _=>none),[.var 7],(.set 8),[]⟩,
 ⟨none,.p1 some,[(.const (.int .i64 (0)))],(.set 9),[]⟩]
def LN:List AC:=[
 ⟨none,.p2 (AO Tryz.prog .lss 3),[.var 9,.var 8],(.set 10),[]⟩]
def N4:List AC:=[
 ⟨none,.p2 (AH Tryz.prog 27),[.var 7,.var 9],.push,[]⟩,
 ⟨none,.r1 (fun s a=>AK Tryz.prog s 3 a),[.loc 0],.push,[]⟩,
 ⟨none,.p1 some,[.var 9],(.set 5),[]⟩,
 ⟨none,.p1 some,[.loc 0],(.set 6),[]⟩]
def N5:List AC:=[
 ⟨none,.p2 (AO Tryz.prog .lss 3),[(.var 6),(.const (.int .i64 (0)))],.push,[]⟩,
 ⟨(some ((.loc 0),false)),.p1 some,[.var 6],.push,[]⟩,
 ⟨(some ((.loc 1),false)),.p1 some,[.var 3],.push,[]⟩,
 ⟨(some ((.loc 2),false)),.p2 (AO Tryz.prog .geq 3),[.loc 1,.loc 0],.push,[]⟩,
 ⟨none,.p Rn,[(.loc 3),(.const (.bool true)),(.loc 0)],(.set 11),[]⟩]
def RL:List AC:=[
 ⟨none,.p (fun l=>AR Tryz.prog 43 (zipIdx [] l)),[],.push,[]⟩,
 ⟨none,.call 22,[.var 0,.loc 0],.push,[]⟩,
 ⟨none,.p2 (AH Tryz.prog 27),[.var 4,.var 5],.push,[]⟩,
 ⟨none,.e (fun s=>Xs (fun a x=>Xu (As Tryz.prog s 3 a x))),[.loc 0,.loc 1],.push,[]⟩]
def N6:List AC:=[
 ⟨none,.p2 (AO Tryz.prog .add 3),[(.var 9),(.const (.int .i64 (1)))],.push,[]⟩,
 ⟨none,.p1 some,[.loc 0],(.set 9),[]⟩]
def IA:AU:=(.seq (.ops LN) (.seq (.cond (.var 10)
 .skip
 (.exit 0)) (.seq (.block 1 (.seq (.ops N4) (.seq (.ops N5) (.cond (.var 11)
 (.ops RL)
 .skip)))) (.ops N6))))
def RJ:List AC:=[
 ⟨none,.p1 some,[.var 4],(.set 2),[]⟩]
def ay:At:=⟨2,12,(.seq (.ops Vw) (.seq (.ops Vx) (.seq (.ops Vy) (.seq (.seq (.ops Vz) (.block 0 (.loop IA))) (.seq (.ops RJ) .ret))))),[((.var 2),none)]⟩
def V0:List AC:=[
 ⟨none,.mk (fun l=>match l with | []=>Bo Tryz.prog 70 | _=>none),[],(.set 2),[]⟩]
def V1:List AC:=[
 ⟨none,.p2 (AO Tryz.prog .eql 25),[(.var 0),(.const (.ptr none))],.push,[]⟩,
 ⟨none,.p1 some,[.loc 0],(.set 3),[]⟩]
def Zb:List AC:=[
 ⟨none,.p (fun l=>AR Tryz.prog 70 (zipIdx [] l)),[],.push,[]⟩,
 ⟨none,.e (fun s=>Xs (fun a x=>Xu (As Tryz.prog s 70 a x))),[.var 2,.loc 0],.push,[]⟩]
def V2:List AC:=[
 ⟨none,.p2 (AO Tryz.prog .lss 3),[(.var 1),(.const (.int .i64 (0)))],.push,[]⟩,
 ⟨(some ((.loc 0),false)),.p1 some,[.var 1],.push,[]⟩,
 ⟨(some ((.loc 1),false)),.p1 some,[.var 0],.push,[]⟩,
 ⟨(some ((.loc 2),false)),.p1 AY,[.loc 0],.push,[]⟩,
 ⟨(some ((.loc 3),false)),.p1 (fun x=>AA Tryz.prog 62 x 0),[.loc 0],.push,[]⟩,
 ⟨(some ((.loc 4),false)),.r1 (fun s a=>AK Tryz.prog s 59 a),[.loc 0],.push,[]⟩,
 ⟨(some ((.loc 5),false)),.r (fun s l=>match l with | [x]=>BY Tryz.prog s 59 x | _=>none),[.loc 0],.push,[]⟩,
 ⟨(some ((.loc 6),false)),.p2 (AO Tryz.prog .geq 3),[.loc 5,.loc 0],.push,[]⟩,
 ⟨none,.p Rn,[(.loc 7),(.const (.bool true)),(.loc 0)],.push,[]⟩,
 ⟨none,.p1 some,[.loc 0],(.set 4),[]⟩]
def Zc:List AC:=[
 ⟨none,.call 60,[],.push,[]⟩,
 ⟨none,.e (fun s=>Xs (fun a x=>Xu (As Tryz.prog s 70 a x))),[.var 2,.loc 0],.push,[]⟩]
def V3:List AC:=[
 ⟨none,.p1 AY,[.var 0],.push,[]⟩,
 ⟨none,.p1 (fun x=>AA Tryz.prog 62 x 0),[.loc 0],.push,[]⟩,
 ⟨none,.r1 (fun s a=>AK Tryz.prog s 59 a),[.loc 0],.push,[]⟩,
 ⟨none,.p2 (AH Tryz.prog 59),[.loc 0,.var 1],.push,[]⟩,
 ⟨none,.r1 (fun s a=>AK Tryz.prog s 70 a),[.loc 0],.push,[]⟩,
 ⟨none,.e (fun s=>Xs (fun a x=>Xu (As Tryz.prog s 70 a x))),[.var 2,.loc 0],.push,[]⟩]
def az:At:=⟨2,5,(.seq (.ops V0) (.seq (.block 0 (.seq (.ops V1) (.cond (.var 3)
 (.seq (.ops Zb) .ret)
 (.seq (.ops V2) (.cond (.var 4)
 (.seq (.ops Zc) .ret)
 .skip))))) (.seq (.ops V3) .ret))),[((.var 2),some 70)]⟩
def RR:List AC:=[
 ⟨none,.p1 some,[(.const (.slice none 0 (some 0)))],(.set 1),[]⟩]
def RU:List AC:=[
 ⟨none,.p2 (AO Tryz.prog .eql 27),[(.var 0),(.const (.slice none 0 (some 0)))],(.set 2),[]⟩]
def Zd:List AC:=[
 ⟨none,.p1 some,[(.const (.slice none 0 (some 0)))],(.set 1),[]⟩]
def RV:List AC:=[
 ⟨none,.mk (fun l=>(Aa Tryz.prog 27 0 (zipIdx [] l)).bind fun r=>some (r,.slice 0)),[],.push,[]⟩,
 ⟨none,.e (fun s l=>Ay Tryz.prog s [27,27] l),[.loc 0,.var 0],.push,[]⟩,
 ⟨none,.p1 some,[.loc 0],(.set 1),[]⟩]
def aO:At:=⟨1,3,(.seq (.ops RR) (.seq (.seq (.ops RU) (.cond (.var 2)
 (.seq (.ops Zd) .ret)
 .skip)) (.seq (.ops RV) .ret))),[((.var 1),none)]⟩
theorem X8:AP Tryz.prog 10=some ZR:=by kernel_rfl
theorem X9:AP Tryz.prog 11=some ZU:=by kernel_rfl
theorem YA:AP Tryz.prog 15=some ae:=by kernel_rfl
theorem YD:AP Tryz.prog 18=some ah:=by kernel_rfl
theorem YE:AP Tryz.prog 19=some ai:=by kernel_rfl
theorem YF:AP Tryz.prog 20=some aj:=by kernel_rfl
theorem YG:AP Tryz.prog 21=some ak:=by kernel_rfl
theorem YH:AP Tryz.prog 22=some am:=by kernel_rfl
theorem YI:AP Tryz.prog 23=some ao:=by kernel_rfl
theorem YJ:AP Tryz.prog 24=some ap:=by kernel_rfl
theorem YK:AP Tryz.prog 25=some aq:=by kernel_rfl
theorem YL:AP Tryz.prog 26=some ar:=by kernel_rfl
theorem YM:AP Tryz.prog 28=some au:=by kernel_rfl
theorem YN:AP Tryz.prog 32=some aw:=by kernel_rfl
theorem YO:AP Tryz.prog 34=some ay:=by kernel_rfl
theorem YP:AP Tryz.prog 39=some az:=by kernel_rfl
theorem SL:AP Tryz.prog 43=some aO:=by kernel_rfl
end
end Go.Proofs.YtickdehehcmfbaaGreatDoor.Am
set_option linter.unusedVariables false
set_option linter.unusedSimpArgs false
namespace Go.Proofs.YtickdehehcmfbaaGreatDoor.Am
open Go Go.Proofs
noncomputable section
structure Ai(E:Bl):Prop where
 P:E.P=Tryz.prog
 nat:∀ (f:FuncId) (xs:List AV) (s:AD),f ∉ [44,30,45,127,109,7,55,37,46]→E.nat f xs s=none
 tab:∀ (f:FuncId) (xs:List AV) (s:AD) (p:AV×AD),Fm f xs s=some p→E.nat f xs s=some p
theorem Ai.go{E:Bl}(hE:Ai E){f:FuncId}{xs:List AV}{cf:At}{K:AV→AD→Prop}{s:AD}(hf:AP Tryz.prog f=some cf)(hne:f ∉ [44,30,45,127,109,7,55,37,46])(ha:xs.length=cf.na)(h:Qa E none cf.body (Ends Tryz.prog cf.results K) (Ql xs cf.nv) [] s):WF E f xs K s:=
 WF.body' (hE.nat f xs s hne) (by rw[hE.P];exact hf) ha (by rw[hE.P];exact h)
theorem WF.native{E:Bl}{f:FuncId}{xs:List AV}{K:AV→AD→Prop}{s s':AD}{v:AV}(h:E.nat f xs s=some (v,s'))(k:K v s'):WF E f xs K s:=by
 refine⟨1,(v,s'),?_,k⟩
 show Fb E _ f xs s=_
 unfold Fb
 rw[h]
def BV(S:List Tm)(t:Tm)(m:Nat):List AV:=BI S t++t.cells++[iv (t.kids.length:Int),iv (t.sz:Int),.map (some m)]
theorem PL:∀a,a<13→(Ee.getD a ([],Tm.nullC)).2.length=7:=by decide
theorem Dc{t:Tm}(h:t.ok):t.cells.length=7:=by
 cases t<;>first | rfl | exact PL _ h
theorem Dw{S:List Tm}{t:Tm}{m:Nat}(h:t.ok):(BV S t m).length=16:=by
 simp[BV,BI,Dc h]
def Dl(S:List Tm):List Tm→List Nat→List AV
 | t::l,m::vm=>BV S t m++Dl S l vm
 | _,_=>[]
theorem FR{S:List Tm}{u:Tm}{m:Nat}:∀ (l:List Tm)(vm:List Nat),l.length=vm.length→(∀t∈l,∀k∈t.kids,k∈S)→(∀k∈u.kids,k∈S) →
  Dl (S++[u]) (l++[u]) (vm++[m])=Dl S l vm++BV S u m
 | [],[],_,_,hu=>by simp only[bP,Dl,BV,Dh [u] hu,List.append_nil,bP]
 | t::l,n::vm,h,hl,hu=>by
  simp only[bS,Dl,cI]
  rw[FR l vm (by simpa using h) (fun x hx=>hl x (br _ hx)) hu]
  simp only[BV,Dh [u] (hl t bm),cI]
theorem IH{S:List Tm}:∀ {l:List Tm}{vm:List Nat},vm.length=l.length→(∀t∈l,t.ok)→(Dl S l vm).length=l.length * 16
 | [],[],_,_=>rfl
 | t::l,m::vm,h,ho=>by
  simp only[Dl,bu,bO,Dw (ho t bm)]
  rw[IH (by simpa using h) (fun x hx=>ho x (br _ hx))]
  omega
theorem Je{S:List Tm}:∀ {l:List Tm}{vm:List Nat},vm.length=l.length→(∀t∈l,t.ok)→∀ {i:Nat}{t:Tm}{m:Nat},l[i]? = some t→vm[i]? = some m→∀j,j<16→(Dl S l vm)[i * 16+j]? = (BV S t m)[j]?
 | [],[],_,_,i,t,m,h,_,_,_=>by simp at h
 | t::l,m::vm,hl,ho,i,t',m',h,k,j,hj=>by
  have hlen:=Dw (S:=S) (m:=m) (ho t bm)
  simp only[Dl]
  cases i with
  | zero =>
   simp at h k
   subst h;subst k
   rw[bt (by omega)]
   congr 1;omega
  | succ i =>
   rw[bz (by omega),hlen,show(i+1) * 16+j - 16=i * 16+j from by omega]
   exact Je (by simpa using hl) (fun x hx=>ho x (br _ hx)) (by simpa using h) (by simpa using k) j hj
def H6(s:AD)(m:Nat)(t:Tm):Prop:=∃ks:List Int,s.heap.get m=some (.map 3 (BB ks))∧ks.Nodup∧(∀x,x∈ks↔t.has x=true)∧ks.length≤100000
structure D8(s:AD)(p:Nat)(S:List Tm)(O:List Nat)(tv:AV)(fi:Nat)(vm OT:List Nat):Prop where
 obj:s.heap.get p=some (R 62 0 false [tv,.map (some fi)])
 buf:D6 70 16 s tv S.length (Dl S S vm) OT
 fnd:s.heap.get fi=some (.map 65 (CO S))
 vml:vm.length=S.length
 vars:∀ (i:Nat) (t:Tm) (m:Nat),S[i]? = some t→vm[i]? = some m→H6 s m t∧m<s.next∧m ∉ p::fi::OT
 eq:O=p::fi::(OT++vm)
 plt:p<s.next
 flt:fi<s.next
 pf:p≠fi
 pO:p ∉ OT
 fO:fi ∉ OT
structure AQ(s:AD)(p:Nat)(S:List Tm)(O:List Nat):Prop where
 ok:JA S
 small:S.length≤100000
 ex:∃tv fi vm OT,D8 s p S O tv fi vm OT
def DG(O:List Nat)(s s':AD):Prop:=s.next≤s'.next∧∀j,j<s.next→j ∉ O→s'.heap.get j=s.heap.get j
theorem DG.refl(O:List Nat)(s:AD):DG O s s:=⟨bM _,fun _ _ _=>rfl⟩
def Aj(O O':List Nat)(s:AD):Prop:=∀j∈O',j∈O∨s.next≤j
theorem Aj.refl(O:List Nat)(s:AD):Aj O O s:=fun _ h=>.inl h
theorem DG.trans{O O':List Nat}{s s1 s2:AD}(h:DG O s s1)(k:DG O' s1 s2)(hO:Aj O O' s):DG O s s2:=
 ⟨bo h.1 k.1,fun j hj hn=>(k.2 j (bi hj h.1) (fun hm=>(hO j hm).elim hn (fun hl=>by omega))).trans (h.2 j hj hn)⟩
theorem Aj.trans{O O1 O2:List Nat}{s s1:AD}(h:Aj O O1 s)(k:Aj O1 O2 s1)(hn:s.next≤s1.next):Aj O O2 s:=fun j hj =>
 (k j hj).elim (h j) (fun hl=>.inr (bo hn hl))
theorem H6.frame{s s':AD}{m:Nat}{t:Tm}(h:H6 s m t)(e:s'.heap.get m=s.heap.get m):H6 s' m t:=by
 obtain⟨ks,h1,h2⟩:=h
 exact⟨ks,by rw[e];exact h1,h2⟩
theorem D8.lt      {s : AD}  {p : Nat} {S : List Tm} {O : List Nat} {tv : AV} {fi : Nat} {vm OT : List Nat} (h : D8      s p S O tv fi vm OT) : ∀ j ∈ O, j < s.next := by
  intro j hj
  rw[h.eq]at hj
  rcases bv.1 hj with rfl | hj
  · exact h.plt
  · rcases bv.1            hj with rfl | hj
    · exact h.flt
    · rcases List.mem_append.1 hj with hj | hj
      · exact h.buf.lt j hj
      · obtain⟨i,hi,he⟩:=List.mem_iff_getElem.1 hj
        have hiS:i<S.length:=by rw[← h.vml];exact hi
        exact(h.vars i S[i] j (bc hiS) (by rw[← he];exact bc hi)).2.1
theorem AQ.lt{s:AD}{p:Nat}{S:List Tm}{O:List Nat}(h:AQ s p S O):∀j∈O,j<s.next:=let ⟨_,_,_,_,h⟩:=h.ex;h.lt
theorem AQ.frame{s s':AD}{p:Nat}{S:List Tm}{O:List Nat}(h:AQ s p S O)(hn:s.next≤s'.next)(k:∀j∈O,s'.heap.get j=s.heap.get j):AQ s' p S O:=by
 obtain⟨tv,fi,vm,OT,e⟩:=h.ex
 have hp:p∈O:=by rw[e.eq];simp
 have hf:fi∈O:=by rw[e.eq];simp
 have hT:∀j∈OT,j∈O:=fun j hj=>by rw[e.eq];simp[hj]
 have hv:∀j∈vm,j∈O:=fun j hj=>by rw[e.eq];simp[hj]
 refine⟨h.ok,h.small,tv,fi,vm,OT,?_,?_,?_,e.vml,?_,e.eq,bi e.plt hn,bi e.flt hn,e.pf,e.pO,e.fO⟩
 ·rw[k p hp];exact e.obj
 ·exact e.buf.frame hn fun j hj=>k j (hT j hj)
 ·rw[k fi hf];exact e.fnd
 ·intro i t m hi hm
  obtain⟨k1,k2,k3⟩:=e.vars i t m hi hm
  exact⟨k1.frame (k m (hv m (bn hm))),bi k2 hn,k3⟩
theorem AQ.old{s s':AD}{p:Nat}{S:List Tm}{O:List Nat}(h:AQ s p S O)(k:BD s.next s s'):AQ s' p S O:=
 h.frame k.1 fun j hj=>k.2 j (h.lt j hj)
section
variable{s:AD}{p:Nat}{S:List Tm}{O:List Nat}{tv:AV}{fi:Nat}{vm OT:List Nat}
theorem D8.entry      (h : D8      s p S O tv fi vm OT) (hs : JA  S) {i : Nat} {t : Tm} (hi : S[i]? = some t) :
    ∃m j r,vm[i]? = some m∧tv=.slice (some (j,0)) S.length none∧j∈O∧s.heap.get j=some (.row r)∧A1 (some (.row r)) (i * 16) 16=some (BV S t m)∧∀k,k<16→Cz (some (.row r)) (i * 16+k)=(BV S t m)[k]? := by
  have hil:i<S.length:=by
    rcases be i S.length with h' | h'
    · exact h'
    · rw[bh h']at hi;cases hi
  have him:i<vm.length:=by rw[h.vml];exact hil
  have hm:vm[i]? = some vm[i]:=bc (by rw[h.vml];exact hil)
  have hlen:=IH (S:=S) h.vml hs.ok
  have hat:=Je (S:=S) h.vml hs.ok hi hm
  have hel:=Dw (S:=S) (m:=vm[i]) (hs.ok t (bn hi))
  rcases h.buf.row with⟨_,h0,_⟩ | ⟨j,r,h1,h2,h3,h4⟩
  · omega
  · refine ⟨vm[i], j, r, hm, h1, by rw [h.eq]; simp [h2], h3, ?_, fun k hk => ?_⟩
    · rw[Df h4 (by rw[hlen];omega)]
      congr 1
      apply List.ext_getElem?
      intro k
      by_cases hk:k<16
      · rw[cO hk,cU]
        exact hat k hk
      · rw[bh (by simp;omega),bh (by omega)]
    · have hk2:(BV S t vm[i])[k]? = some (BV S t vm[i])[k]:=bc (by omega)
      rw[hk2]
      exact Sj h4 (by rw[hat k hk];exact hk2)
theorem Ie{α:Type}:∀ {l m:List α},l.Nodup→(∀x∈l,x∈m)→l.length≤m.length
 | [],_,_,_=>bl _
 | a::l,m,hn,h=>by
  obtain⟨m1,m2,rfl⟩:=List.append_of_mem (h a bm)
  simp only[cJ]at hn
  have:=Ie (m:=m1++m2) hn.2 fun x hx=>by
   have:=h x (br _ hx)
   simp only[List.mem_append,bv]at this ⊢
   rcases this with h' | h' | h'
   ·exact .inl h'
   ·subst h';exact absurd hx hn.1
   ·exact .inr h'
  simp at this ⊢;omega
theorem E8{S:List Tm}(hs:JA S){x:Int}:∀ (t:Tm),t∈S→t.has x=true→Tm.var x∈S
 | .var i,ht,h=>by simp[Tm.has]at h;subst h;exact ht
 | .bnd _,_,h=>by cases h
 | .con _,_,h=>by cases h
 | .sel d k,ht,h=>by
  simp only[Tm.has,Bool.or_eq_true]at h
  rcases h with h | h
  ·exact E8 hs d (hs.kid ht (by simp[Tm.kids])).1 h
  ·exact E8 hs k (hs.kid ht (by simp[Tm.kids])).1 h
 | .upd d k a,ht,h=>by
  simp only[Tm.has,Bool.or_eq_true]at h
  rcases h with(h | h) | h
  ·exact E8 hs d (hs.kid ht (by simp[Tm.kids])).1 h
  ·exact E8 hs k (hs.kid ht (by simp[Tm.kids])).1 h
  ·exact E8 hs a (hs.kid ht (by simp[Tm.kids])).1 h
theorem Tk{S:List Tm}(hs:JA S){t:Tm}(ht:t∈S){ks:List Int}(hn:ks.Nodup)(hk:∀x∈ks,t.has x=true):ks.length≤S.length:=by
 have hsub:∀u∈ks.map Tm.var,u∈S:=fun u hu=>by
  obtain⟨x,hx,rfl⟩:=List.mem_map.1 hu
  exact E8 hs t ht (hk x hx)
 have hnd:(ks.map Tm.var).Nodup:=by
  rw[List.Nodup,List.pairwise_map]
  exact hn.imp fun h e=>h (by injection e)
 have:=Ie hnd hsub
 simpa using this
end
def push(S:List Tm)(u:Tm):List Tm:=if u∈S then S else S++[u]
def Eu(S:List Tm)(l:List Tm):List AV:=l.map fun t=>iv (ix S t:Int)
def Bd(s:AD)(S:List Tm)(l:List Tm)(v:AV):Prop:=
 (l=[]∧v=.slice none 0 (some 0))∨∃j q cap,v=.slice (some (j,q)) l.length cap∧0<l.length∧j<s.next∧A1 (s.heap.get j) q l.length=some (Eu S l)
theorem Lr{o:Option Ao}{q n:Nat}{cs:List AV}(h:A1 o q n=some cs){k:Nat}(hk:k<n):Cz o (q+k)=cs[k]? := by
 unfold A1 at h
 simp only[bQ]at h
 obtain⟨r,h1,h2⟩:=h
 obtain⟨h3,h4⟩:=AB h2
 have h3:q+n≤r.n:=by simpa[bf]using h3
 unfold Cz
 rw[h1,Option.bind_some,QU (show q+k<r.n by omega)]
 exact AI.take_get h4 k hk
theorem NG{o:Option Ao}{q:Nat}{S l:List Tm}(h:A1 o q l.length=some (Eu S l)){k:Nat}{t:Tm}(hk:l[k]? = some t):Cz o (q+k)=some (iv (ix S t:Int)):=by
 have hlt:k<l.length:=by
  rcases be k l.length with h' | h'
  ·exact h'
  ·rw[bh h']at hk;cases hk
 rw[Lr h hlt,Eu,b3,hk];rfl
theorem Un(s:AD)(i o:Nat):Ar Tryz.prog 44 false false false s [.ptr (some (i,o))]=some (.slice (some (i,o)) 3 (some 3)):=by
 have:Ar Tryz.prog 44 false false false s [.ptr (some (i,o))]=some (.slice (some (i,o+0 * 1)) 3 (some 3)):=by kernel_rfl
 exact this
theorem Mz{s:AD}{i o:Nat}{S l:List Tm}{v:AV}(hn:l.length≤3)(h:Bd s S l v):
  II Tryz.prog s [27,27] [.slice (some (i,o)) 3 (some 3),v]=(Bu s i o (Eu S l)).bind fun s'=>some (iv (l.length:Int),s'):=by
 rcases h with⟨rfl,rfl⟩ | ⟨j,q,cap,rfl,h0,_,h⟩
 ·simp only[II,Tryz.underlying27,Fy,Option.bind_some]
  rfl
 ·have hb:Nat.ble l.length 3=true:=CM hn
  simp only[II,Tryz.underlying27,Fy,Option.bind_some,hb,cond_true,b0,Co,h]
  rfl
theorem Pr{s:AD}{S l:List Tm}{v:AV}(h:Bd s S l v)(s':AD):BY Tryz.prog s' 27 v=some (iv (l.length:Int)):=by
 rcases h with⟨rfl,rfl⟩ | ⟨j,q,cap,rfl,_⟩<;>exact AZ Tryz.underlying27
theorem DQ(u:Tm):u.kids.length≤3:=by cases u<;>simp[Tm.kids]
theorem Sr{s:AD}{S:List Tm}{u:Tm}{b:Nat}(hb:s.next=b):
  Bu (ext s [R 65 0 false [iv u.kind,iv u.id,iv 0,iv 0,iv 0,.str u.ktext],R 43 0 false u.cells]) (nid b 0) 2 (Eu S u.kids)=some (ext s [R 65 0 false (BI S u),R 43 0 false u.cells]):=by
 cases u<;>simp[Tm.kids,Eu,BI,part,hb,Rz,Wa,Wb,Wc,Wd,We,Wf,Wg,Wh,Wi,Wj,Wl,Wm,Wn,Wp,Wq,Wr,Ws,Wt,Wu,Wv,Ww,Wx,Wy,Wz,Xa,Xb,Xc,Xd,Xe,Xf,Xg,Xh,Xi,Xj,Xk,Xl,Xm,Xn,Xo,Xp,Xq,Xr,bO,bT,bS,bP,bU,bV,List.getElem?_cons_zero,List.getElem?_cons_succ,bR,bX,bW,bY,bN,Nat.reduceAdd,Nat.reduceLT,Nat.reduceLeDiff,decide_true,decide_false,Bool.true_and,Bool.and_true,bZ,bM,Option.some.injEq,Xs,Xt,Xu,Xv]
set_option maxRecDepth 100000 in
theorem Um(a b c d e:Int)(l:List Nat):CF Tryz.prog 65 (.agg [iv a,iv b,iv c,iv d,iv e,.str l]) =
  (BA .i64 a && (BA .i64 b && ((BA .i64 c && (BA .i64 d && (BA .i64 e && true))) && (Nat.ble l.length 1099511627776 && true)))):=by kernel_rfl
theorem UF:∀a,a<13→(Ee.getD a ([],[])).1.length<200:=by decide
theorem TZ{S:List Tm}{u:Tm}(hS:S.length<100000)(hk:∀k∈u.kids,k∈S)(ho:u.ok):CF Tryz.prog 65 (.agg (BI S u))=true:=by
 have hp:∀k,i64 (part S u k):=fun k=>by
  unfold part
  cases e:u.kids[k]? with
  | none=>show i64 0;unfold i64;omega
  | some x=>have:=GJ (hk x (bn e));show i64 (ix S x:Int);unfold i64;omega
 have h1:i64 u.kind:=by cases u<;>(simp only[Tm.kind,i64];omega)
 have h2:i64 u.id:=by
  cases u with
  | var i=>exact ho
  | bnd i=>exact ho.2
  | con n=>show i64 0;unfold i64;omega
  | sel d k=>show i64 0;unfold i64;omega
  | upd d k a=>show i64 0;unfold i64;omega
 have h3:u.ktext.length≤1099511627776:=by
  cases u with
  | con n=>have:=UF n ho;show(Ee.getD n ([],[])).1.length≤_;omega
  | var i=>exact bl _
  | bnd i=>exact bl _
  | sel d k=>exact bl _
  | upd d k a=>exact bl _
 unfold BI
 rw[Um,Br h1,Br h2,Br (hp 0),Br (hp 1),Br (hp 2),CM h3]
 rfl
theorem Kp{s:AD}{fi:Nat}{S:List Tm}{u:Tm}(hf:s.heap.get fi=some (.map 65 (CO S)))(hs:JA S)(hS:S.length<100000)(hk:∀k∈u.kids,k∈S)(ho:u.ok):
  Cp Tryz.prog s 60 (.map (some fi)) (.agg (BI S u)) true=some (.tuple [if u∈S then iv (ix S u:Int)else iv 0,.bool (decide (u∈S))]):=by
 unfold Cp
 simp only[Tryz.underlying60,TZ hS hk ho,Xa,H0,hf,GO,Option.bind_some,IS hs hk ho]
 by_cases hm:u∈S<;>simp[hm,zr3]
theorem LA{s:AD}{fi:Nat}{S:List Tm}{u:Tm}(hf:s.heap.get fi=some (.map 65 (CO S)))(hs:JA S)(hS:S.length<100000)(hk:∀k∈u.kids,k∈S)(ho:u.ok)(hu:u ∉ S):
  Cq Tryz.prog s 60 (.map (some fi)) (.agg (BI S u)) (iv (S.length:Int))=some (setObj s fi (.map 65 (CO (S++[u])))):=by
 unfold Cq
 simp only[Tryz.underlying60,TZ hS hk ho,Xa,H0,hf,GO,Option.bind_some,Kz,IS hs hk ho,if_neg hu]
 rw[IT hs hu hk]
theorem Pm(xs:List AV)(s:AD):Fm 55 xs s=IJ 3 s xs:=by kernel_rfl
theorem PR{E:Bl}(hE:Ai E){s:AD}{i j:Nat}{es fs es':List (AV×AV)}{K:AV→AD→Prop}(hij:i≠j)(h1:s.heap.get i=some (.map 3 es))(h2:s.heap.get j=some (.map 3 fs))(hl:es.length+fs.length≤1000000)(hp:G4 fs es=some es')
  (k:K (.tuple []) (setObj s i (.map 3 es'))):WF E 55 [.map (some i),.map (some j)] K s:=by
 refine WF.native (hE.tab _ _ _ (.tuple [],setObj s i (.map 3 es')) ?_) k
 rw[Pm]
 have hb:Nat.beq i j=false:=AI.beq_no hij
 simp only[IJ,hb,Bool.not_false,Xa,H0,h1,h2,GO,Option.bind_some,CM hl,hp]
theorem Pi(a:Int):B9 false (iv a) [iv 4097]=some (iv (min a 4097)):=by
 show AF true (some (iv (bif I9 4097 a then 4097 else a)))=_
 rw[B1]
 show some (iv _)=_
 by_cases h:(4097:Int)<a
 ·simp only[h,decide_true,cond_true];rw[Int.min_eq_right (by omega)]
 ·simp only[h,decide_false,cond_false];rw[Int.min_eq_left (by omega)]
theorem Bd.at{s:AD}{S l:List Tm}{v:AV}(h:Bd s S l v){k:Nat}{t:Tm}(hk:l[k]? = some t):∃j q cap,v=.slice (some (j,q)) l.length cap∧j<s.next∧Cz (s.heap.get j) (q+k)=some (iv (ix S t:Int)):=by
 rcases h with⟨rfl,rfl⟩ | ⟨j,q,cap,rfl,h0,h1,h2⟩
 ·simp at hk
 ·exact⟨j,q,cap,rfl,h1,NG h2 hk⟩
def aZ(z:Nat):List Tm→Nat
 | []=>z
 | t::l=>aZ (min (z+t.sz) 4097) l
theorem Te(u:Tm):aZ 1 u.kids=u.sz:=by cases u<;>rfl
section
variable{E:Bl}(hE:Ai E){s:AD}{p:Nat}{S:List Tm}{O:List Nat}{tv:AV}{fi:Nat}{vm OT:List Nat}(e:D8 s p S O tv fi vm OT)(hS:JA S){pv:AV}{us:List Tm}(hp:Bd s S us pv)(h3:us.length≤3)(hin:∀t∈us,t∈S)
  (a1 a2 a4 a5 a6 a7 a8 a11 a12 k0 k1 k2 k3 k4 k5 c0 c1 c2 c3 c4 c5 c6:AV) (kb vb:Ao) {b:Nat} (hs:s.next=b)
include hE e hS hp h3 hin hs
theorem S7       {Q : Au   → Prop} {marks : List Nat} : ∀ (l2 l1 : List Tm) (ks : List Int) (z : Nat) (a10 a16 : AV), us = l1 ++ l2 → ks.Nodup → ks.length ≤ 100000 + l1.length * 100000 → z ≤ 4097 →
    (∀ (ks':List Int) (b10 b15 b16:AV),ks'.Nodup→(∀x,x∈ks'↔x∈ks∨∃t∈l2,t.has x=true) →
      AT 0 Q ⟨.exit 0,[.ptr (some (p,0)),a1,a2,pv,a4,a5,a6,a7,a8,.ptr (some (nid b 3,0)),b10,a11,a12,pv,iv (us.length:Int),b15,b16],marks,ext s [kb,vb,.map 3 (BB ks'),R 70 0 false [k0,k1,k2,k3,k4,k5,c0,c1,c2,c3,c4,c5,c6,iv (us.length:Int),iv (aZ z l2:Int),.map (some (nid b 2))]]⟩) →
    WC E none Gn.loop (AT 0 Q) [.ptr (some (p,0)),a1,a2,pv,a4,a5,a6,a7,a8,.ptr (some (nid b 3,0)),a10,a11,a12,pv,iv (us.length:Int),iv (l1.length:Int),a16] marks
      (ext s [kb,vb,.map 3 (BB ks),R 70 0 false [k0,k1,k2,k3,k4,k5,c0,c1,c2,c3,c4,c5,c6,iv (us.length:Int),iv (z:Int),.map (some (nid b 2))]]):=by
  intro l2
  induction l2 with
  | nil =>
    intro l1 ks z a10 a16 hus hn hl hz hq
    refine WC.loop' ?_
    have hlt:¬ ((l1.length:Int)<(us.length:Int)):=by rw[hus];simp
    simp only[Gn,RI,hlt,decide_false,Qa,Qb,Qc,Qd,Qe,Qf,Qg,Qh,Qi,Qj,Qk,Ql,Qm,Qn,true_and,and_true,Qo,Qp,Qq,Qr,Qs,Qt,Qu,Qv,Qw,Qx,Qy,Qz,Ra,Rb,Rc,Rd,Re,Rf,Rg,Rh,Ri,Rj,Rk,Rl,Rm,Ya,Yb,Yc,Rn,Ro,Xv,Yd,Ye,Rq,Rs,Rt,Ru,Rw,Rx,Ry]
    exact hq ks _ _ _ hn (fun x=>by simp)
  | cons t l2 ih =>
    intro l1 ks z a10 a16 hus hn hl hz hq
    refine WC.loop' ?_
    obtain⟨L,hL⟩:∃L,L=AU.loop Gn:=⟨_,rfl⟩
    rw[← hL]
    have hlt:((l1.length:Int)<(us.length:Int)):=by rw[hus];simp;omega
    have hat:us[l1.length]? = some t:=by rw[hus];simp
    obtain⟨j,q,cap,rfl,hj,hpl⟩:=hp.at hat
    have htS:t∈S:=hin t (bn hat)
    obtain⟨m,jr,r,hvm,rfl,hjO,hjr,_,hle⟩:=e.entry hS (DP htS)
    have hls:=hle 14 (by omega)
    have hlv:=hle 15 (by omega)
    rw[← hjr]at hls hlv
    have hc7:=Dc (hS.ok t htS)
    have es:(BV S t m)[14]? = some (iv (t.sz:Int)):=by simp[BV,BI,hc7,bz,bt]
    have ev:(BV S t m)[15]? = some (.map (some m)):=by simp[BV,BI,hc7,bz,bt]
    rw[es]at hls
    rw[ev]at hlv
    obtain⟨⟨mk,hm1,hm2,hm3,hm4⟩,hmb,hmO⟩:=e.vars _ _ _ (DP htS) hvm
    have hpb:=e.plt
    have hobj:=e.obj
    have hjrb:=e.lt jr hjO
    rw[hs]at hj hjrb hmb hpb
    have hzz:=t.sz_pos
    have hix:=GJ htS
    have hadd:i64 ((z:Int)+(t.sz:Int)):=by unfold i64;omega
    have hadd1:i64 ((l1.length:Int)+1):=by unfold i64;omega
    have hl3:l1.length<us.length:=by omega
    simp only[Gn,RI,RC,RD,hlt,decide_true,Qa,Qb,Qc,Qd,Qe,Qf,Qg,Qh,Qi,Qj,Qk,Ql,Qm,Qn,true_and,and_true,Qo,Qp,Qq,Qr,Qs,Qt,Qu,Qv,Qw,Qx,Qy,Qz,Ra,Rb,Rc,Rd,Re,Rf,Rg,Rh,Ri,Rj,Rk,Rl,Rm,Ya,Yb,Yc,Rn,Ro,Xv,Yd,Ye,Rq,Rs,Rt,Ru,Rw,Rx,Ry,Ac Tryz.underlying27 Fy hl3,Ac Tryz.underlying59 JJ hix,C3,X3,QQ,Fy,M6,IM,hj,hjrb,hpb,hpl,hobj,hls,hs,b0,A9 _ _ _ _ hadd,Pi,Rz,Wa,Wb,Wc,Wd,We,Wf,Wg,Wh,Wi,Wj,Wl,Wm,Wn,Wp,Wq,Wr,Ws,Wt,Wu,Wv,Ww,Wx,Wy,Wz,Xa,Xb,Xc,Xd,Xe,Xf,Xg,Xh,Xi,Xj,Xk,Xl,Xm,Xn,Xo,Xp,Xq,Xr,bO,bT,bS,bP,bU,bV,List.getElem?_cons_zero,List.getElem?_cons_succ,bR,bX,bW,bY,bN,Nat.reduceAdd,Nat.reduceLT,Nat.reduceLeDiff,decide_true,decide_false,Bool.true_and,Bool.and_true,bZ,bM,Option.some.injEq,Xs,Xt,Xu,Xv]
    have hmn:nid b 2≠m:=by rw[AG];omega
    simp only[RE,Qa,Qb,Qc,Qd,Qe,Qf,Qg,Qh,Qi,Qj,Qk,Ql,Qm,Qn,true_and,and_true,Qo,Qp,Qq,Qr,Qs,Qt,Qu,Qv,Qw,Qx,Qy,Qz,Ra,Rb,Rc,Rd,Re,Rf,Rg,Rh,Ri,Rj,Rk,Rl,Rm,Ya,Yb,Yc,Rn,Ro,Xv,Yd,Ye,Rq,Rs,Rt,Ru,Rw,Rx,Ry,Ac Tryz.underlying59 JJ hix,X3,QQ,Sa,IM,hjrb,hpb,hobj,hlv,hs,Rz,Wa,Wb,Wc,Wd,We,Wf,Wg,Wh,Wi,Wj,Wl,Wm,Wn,Wp,Wq,Wr,Ws,Wt,Wu,Wv,Ww,Wx,Wy,Wz,Xa,Xb,Xc,Xd,Xe,Xf,Xg,Xh,Xi,Xj,Xk,Xl,Xm,Xn,Xo,Xp,Xq,Xr,bO,bT,bS,bP,bU,bV,List.getElem?_cons_zero,List.getElem?_cons_succ,bR,bX,bW,bY,bN,Nat.reduceAdd,Nat.reduceLT,Nat.reduceLeDiff,decide_true,decide_false,Bool.true_and,Bool.and_true,bZ,bM,Option.some.injEq,Xs,Xt,Xu,Xv]
    refine PR hE hmn (by rw[Wg hs (by simp)];rfl) (by rw[Wh (by rw[hs];exact hmb)];exact hm1) ?_ (Hd mk ks) ?_
    · simp only[BB,bp];omega
    have hzc:min ((z:Int)+(t.sz:Int)) 4097=((min (z+t.sz) 4097:Nat):Int):=by omega
    simp only[RF,Qa,Qb,Qc,Qd,Qe,Qf,Qg,Qh,Qi,Qj,Qk,Ql,Qm,Qn,true_and,and_true,Qo,Qp,Qq,Qr,Qs,Qt,Qu,Qv,Qw,Qx,Qy,Qz,Ra,Rb,Rc,Rd,Re,Rf,Rg,Rh,Ri,Rj,Rk,Rl,Rm,Ya,Yb,Yc,Rn,Ro,Xv,Yd,Ye,Rq,Rs,Rt,Ru,Rw,Rx,Ry,A9 _ _ _ _ hadd1,hs,hzc,Rz,Wa,Wb,Wc,Wd,We,Wf,Wg,Wh,Wi,Wj,Wl,Wm,Wn,Wp,Wq,Wr,Ws,Wt,Wu,Wv,Ww,Wx,Wy,Wz,Xa,Xb,Xc,Xd,Xe,Xf,Xg,Xh,Xi,Xj,Xk,Xl,Xm,Xn,Xo,Xp,Xq,Xr,bO,bT,bS,bP,bU,bV,List.getElem?_cons_zero,List.getElem?_cons_succ,bR,bX,bW,bY,bN,Nat.reduceAdd,Nat.reduceLT,Nat.reduceLeDiff,decide_true,decide_false,Bool.true_and,Bool.and_true,bZ,bM,Option.some.injEq,Xs,Xt,Xu,Xv]
    have hlen:(l1++[t]).length=l1.length+1:=by simp
    have:=ih (l1++[t]) (mk.foldl Fe ks) (min (z+t.sz) 4097) (iv (ix S t:Int)) (.bool true) (by rw[hus];simp) (HO mk hn) ?_ (by omega) ?_
    · rw [hlen] at this
      rw[hL]
      exact this
    · have:=GM mk ks
      rw[hlen];omega
    · intro ks' b10 b15 b16 hn' hx
      refine hq ks' b10 b15 b16 hn' fun x=>?_
      rw[hx,Jn,hm3]
      constructor
      · rintro ((h | h) | ⟨u, h1, h2⟩)
        · exact .inl h
        · exact .inr ⟨t,bm,h⟩
        · exact .inr ⟨u,br _ h1,h2⟩
      · rintro (h | ⟨u, h1, h2⟩)
        · exact .inl (.inl h)
        · rcases bv.1            h1 with rfl | h1
          · exact .inl (.inr h2)
          · exact .inr ⟨u,h1,h2⟩
end
set_option maxRecDepth 100000 in
theorem QV(k0 k1 k2 k3 k4 k5 c0 c1 c2 c3 c4 c5 c6:AV)(n z:Int)(m:Nat):AR Tryz.prog 70 (zipIdx [0,1,2,3,4] [.agg [k0,k1,k2,k3,k4,k5],.agg [c0,c1,c2,c3,c4,c5,c6],iv n,iv z,.map (some m)]) =
  some (.agg [k0,k1,k2,k3,k4,k5,c0,c1,c2,c3,c4,c5,c6,iv n,iv z,.map (some m)]):=by kernel_rfl
theorem Px(k0 k1 k2 k3 k4 k5 c0 c1 c2 c3 c4 c5 c6 n z m:AV):Aa Tryz.prog 59 1 (zipIdx [0] [.agg [k0,k1,k2,k3,k4,k5,c0,c1,c2,c3,c4,c5,c6,n,z,m]]) =
  some (R 70 16 false [k0,k1,k2,k3,k4,k5,c0,c1,c2,c3,c4,c5,c6,n,z,m]):=by kernel_rfl
theorem US:Dy Tryz.prog 68=some 3:=by kernel_rfl
theorem To:Bv Tryz.prog 70 16=true:=by kernel_rfl
theorem PK:∀a,a<13→AW (Ee.getD a ([],Tm.nullC)).2=true:=by decide
theorem Tm.cells7{t:Tm}(h:t.ok):∃c0 c1 c2 c3 c4 c5 c6,t.cells=[c0,c1,c2,c3,c4,c5,c6]∧c0.isCell=true∧c1.isCell=true∧c2.isCell=true∧c3.isCell=true∧c4.isCell=true∧c5.isCell=true∧c6.isCell=true:=by
 have h7:=Dc h
 have ha:AW t.cells=true:=by
  cases t<;>first | rfl | exact PK _ h
 match hc:t.cells,h7,ha with
 | [c0,c1,c2,c3,c4,c5,c6],_,ha =>
  simp only[AW,Bool.and_eq_true,and_true]at ha
  exact⟨_,_,_,_,_,_,_,rfl,ha⟩
section
variable{E:Bl}{s:AD}{p:Nat}{S:List Tm}{O:List Nat}{tv:AV}{fi:Nat}{vm OT:List Nat}(e:D8 s p S O tv fi vm OT)(hS:JA S)(hsm:S.length<100000)
  {u:Tm} (hk:∀k∈u.kids,k∈S) (ho:u.ok) (hu:u ∉ S) (a1 a2 pv a5 a6 a7 a8 a10 a11 a12 a13 a14 a15 a16:AV) (vb:Ao) {b:Nat} (hs:s.next=b) {ks:List Int} (hkn:ks.Nodup) (hkx:∀x,x∈ks↔u.has x=true)
include e hS hsm hk ho hu hs hkn hkx
theorem Ud      {K : AV → AD  → Prop} (hK : ∀ s' O', AQ      s' p (S ++ [u]) O' → DG  O s s' → Aj   O O' s → K (iv (S.length : Int)) s') :
    Qb E KU (fun v s'=>Qb E KW (fun v s'=>Qb E KX (fun v s'=>Kx (CU s' []) fun s'=>K (JG v 6) s') [] v s') [] v s') []
      [.ptr (some (p,0)),a1,a2,pv,.ptr (some (nid b 0,0)),a5,a6,a7,a8,.ptr (some (nid b 3,0)),a10,a11,a12,a13,a14,a15,a16]
      (ext s [R 65 0 false (BI S u),vb,.map 3 (BB ks),R 70 0 false (BV S u (nid b 2))]):=by
  obtain⟨c0,c1,c2,c3,c4,c5,c6,hc,d0,d1,d2,d3,d4,d5,d6⟩:=u.cells7 ho
  have hpb:=e.plt
  have hfb:=e.flt
  have hobj:=e.obj
  rw[hs]at hpb hfb
  have hbuf:=e.buf.frame (s':=ext s [R 65 0 false (BI S u),vb,.map 3 (BB ks),R 70 0 false (BV S u (nid b 2)),R 70 16 false (BV S u (nid b 2))]) (by rw[Wm,AG];omega) (fun j hj=>Wh (e.buf.lt j hj))
  have hsrc:B3 Tryz.prog (ext s [R 65 0 false (BI S u),vb,.map 3 (BB ks),R 70 0 false (BV S u (nid b 2)),R 70 16 false (BV S u (nid b 2))]) 70 16 (.slice (some (nid b 4,0)) 1 (some 1))=some (1,BV S u (nid b 2)):=by
    show(I2 _ (nid b 4) 0 1 16).bind _=_
    rw[FG (l:=BV S u (nid b 2)) (by rw[Co,Wg hs (by simp)];show A1 (some (R 70 16 false (BV S u (nid b 2)))) _ _=_;rw[Wj (by rw[Dw ho];exact bM _),bR,bw (by rw[Dw ho];exact bM _)])]
    rfl
  have hac:AW (BV S u (nid b 2))=true:=by
    simp only[BV,BI,hc,bS,bP,AW,d0,d1,d2,d3,d4,d5,d6,Xl,Xm,Xo,Bool.and_self]
  obtain⟨v',s2,O2,happ,hb2,hn2,hf2,hO2,hsl⟩:=hbuf.append (xt:=59) Tryz.underlying59 JJ aN (by omega) (by kernel_rfl) To (by omega) hsrc (by rw[Dw ho]) hac (by omega) (by omega)
  have hv2:∃a c,v'=.slice a (S.length+1) c:=let ⟨a,c,h,_⟩:=hb2.slice;⟨a,c,h⟩
  obtain⟨av,cv,rfl⟩:=hv2
  have hnx:(ext s [R 65 0 false (BI S u),vb,.map 3 (BB ks),R 70 0 false (BV S u (nid b 2)),R 70 16 false (BV S u (nid b 2))]).next=b+5:=by rw[Wm,AG,hs];rfl
  rw[hnx]at hn2 hf2 hO2 hsl
  have hOT:∀j∈OT,j<b:=fun j hj=>by have:=e.buf.lt j hj;omega
  have g0:s2.heap.get (nid b 0)=some (R 65 0 false (BI S u)):=by
    rw[hf2 _ (by rw[AG];omega) (fun h=>by have:=hOT _ h;rw[AG]at this;omega),Wg hs (by simp)];rfl
  have g2:s2.heap.get (nid b 2)=some (.map 3 (BB ks)):=by
    rw[hf2 _ (by rw[AG];omega) (fun h=>by have:=hOT _ h;rw[AG]at this;omega),Wg hs (by simp)];rfl
  have gold:∀j,j<b→j ∉ OT→s2.heap.get j=s.heap.get j:=fun j h1 h2=>by
    rw[hf2 j (by omega) h2,Wh (by omega)]
  have gp:s2.heap.get p=some (R 62 0 false [tv,.map (some fi)]):=by rw[gold p hpb e.pO];exact hobj
  have gf:s2.heap.get fi=some (.map 65 (CO S)):=by rw[gold fi hfb e.fO];exact e.fnd
  have hu2:BV S u (nid b 2)=[iv u.kind,iv u.id,iv (part S u 0),iv (part S u 1),iv (part S u 2),.str u.ktext,c0,c1,c2,c3,c4,c5,c6,iv (u.kids.length:Int),iv (u.sz:Int),.map (some (nid b 2))]:=by
    simp only[BV,BI,hc,bS,bP]
  rw[hu2]at happ ⊢
  have hfp:fi≠p:=Ne.symm e.pf
  have hp0:nid b 0≠p:=by rw[AG];omega
  have hup:=LA (s:=setObj s2 p (R 62 0 false [.slice av (S.length+1) cv,.map (some fi)])) (fi:=fi) (u:=u) (by rw[Wr _ hfp];exact gf) hS hsm hk ho hu
  have hsub:i64 (((S.length+1:Nat):Int) - 1):=by unfold i64;omega
  have hsub2:((S.length+1:Nat):Int) - 1=(S.length:Int):=by omega
  have g0:s2.heap.get (nid b 0)=some (R 65 0 false [iv u.kind,iv u.id,iv (part S u 0),iv (part S u 1),iv (part S u 2),.str u.ktext]):=g0
  simp only[BI]at hup happ
  simp only[BI,KU,KW,KX,Qa,Qb,Qc,Qd,Qe,Qf,Qg,Qh,Qi,Qj,Qk,Ql,Qm,Qn,true_and,and_true,Qo,Qp,Qq,Qr,Qs,Qt,Qu,Qv,Qw,Qx,Qy,Qz,Ra,Rb,Rc,Rd,Re,Rf,Rg,Rh,Ri,Rj,Rk,Rl,Rm,Ya,Yb,Yc,Rn,Ro,Xv,Yd,Ye,Rq,Rs,Rt,Ru,Rw,Rx,Ry,IM,SZ,hpb,hobj,hs,QQ,ZO,X2,Y8,aX,PA,JJ,Px,happ,gp,hfp,hp0,g0,AZ Tryz.underlying59,F4 _ _ _ _ hsub,hsub2,hup,Ne.symm hfp,ne_eq,not_false_eq_true,not_true,Rz,Wa,Wb,Wc,Wd,We,Wf,Wg,Wh,Wi,Wj,Wl,Wm,Wn,Wp,Wq,Wr,Ws,Wt,Wu,Wv,Ww,Wx,Wy,Wz,Xa,Xb,Xc,Xd,Xe,Xf,Xg,Xh,Xi,Xj,Xk,Xl,Xm,Xn,Xo,Xp,Xq,Xr,bO,bT,bS,bP,bU,bV,List.getElem?_cons_zero,List.getElem?_cons_succ,bR,bX,bW,bY,bN,Nat.reduceAdd,Nat.reduceLT,Nat.reduceLeDiff,decide_true,decide_false,Bool.true_and,Bool.and_true,bZ,bM,Option.some.injEq,Xs,Xt,Xu,Xv]
  have hok:=hS.push hu hk ho
  have hlen:(S++[u]).length=S.length+1:=by simp
  have hin:∀j,j∈O↔j=p∨j=fi∨j∈OT∨j∈vm:=fun j=>by rw[e.eq];simp
  have hpO2:p ∉ O2:=fun h=>(hO2 p h).elim e.pO (fun h=>by omega)
  have hfO2:fi ∉ O2:=fun h=>(hO2 fi h).elim e.fO (fun h=>by omega)
  have hget:∀j,j≠p→j≠fi→(setObj (setObj s2 p (R 62 0 false [.slice av (S.length+1) cv,.map (some fi)])) fi (.map 65 (CO (S++[u])))).heap.get j=s2.heap.get j:=fun j h1 h2=>by
    rw[Wr _ h2,Wr _ h1]
  refine hK _ (p::fi::(O2++(vm++[nid b 2]))) ⟨hok,by omega,.slice av (S.length+1) cv,fi,vm++[nid b 2],O2,?_,?_,Wq _ _ _,by rw[bu,e.vml,hlen];rfl,?_,rfl,?_,?_,e.pf,hpO2,hfO2⟩ ⟨?_,?_⟩ ?_
  · rw[Wr _ (Ne.symm hfp),Wq]
  · rw [hlen, FR            S vm e.vml.symm (fun t ht k hkk => (hS.kid ht hkk).1) hk]
    refine hb2.frame (bM _) fun j hj=>hget j (fun h=>hpO2 (h▸hj)) (fun h=>hfO2 (h▸hj))
  · intro i t m hi hm
    have hnx2:(setObj (setObj s2 p (R 62 0 false [.slice av (S.length+1) cv,.map (some fi)])) fi (.map 65 (CO (S++[u])))).next=b+6:=by rw[Wp,Wp,hn2]
    rw[hnx2]
    rcases be i S.length with hl | hl
    · rw [bt                        hl] at hi
      rw[bt (by rw[e.vml];exact hl)]at hm
      obtain⟨h1,h2,h3⟩:=e.vars i t m hi hm
      have hmp:m≠p:=fun h=>h3 (by simp[h])
      have hmf:m≠fi:=fun h=>h3 (by simp[h])
      have hmT:m ∉ OT:=fun h=>h3 (by simp[h])
      refine⟨h1.frame (by rw[hget m hmp hmf,gold m (by omega) hmT]),by omega,fun h=>?_⟩
      rcases bv.1 h with h | h
      · exact hmp h
      · rcases bv.1            h with h | h
        · exact hmf h
        · rcases hO2 m h with h | h
          · exact hmT h
          · omega
    · have hi2:i<(S++[u]).length:=by
        rcases be i (S++[u]).length with h' | h'
        · exact h'
        · rw[bh h']at hi;cases hi
      have hi3:i=S.length:=by omega
      subst hi3
      have ht:t=u:=by simpa using hi.symm
      rw[bz (by rw[e.vml];exact bM _),e.vml,Nat.sub_self]at hm
      have hm:m=nid b 2:=by simpa using hm.symm
      subst ht;subst hm
      have hlt2:nid b 2<b+6∧b≤nid b 2∧nid b 2<b+5:=by rw[AG];omega
      refine⟨⟨ks,by rw[hget _ (by omega) (by omega)];exact g2,hkn,hkx,?_⟩,hlt2.1,fun h=>?_⟩
      · have:=Tk hok (cM _ (List.mem_singleton.2 rfl)) hkn (fun x hx=>(hkx x).1 hx)
        omega
      · rcases bv.1            h with h | h
        · omega
        · rcases bv.1            h with h | h
          · omega
          · rcases hO2 _ h with h | h
            · have:=hOT _ h;omega
            · omega
  · rw[Wp,Wp];omega
  · rw[Wp,Wp];omega
  · rw[Wp,Wp];omega
  · intro j hj hjO
    rw[hin]at hjO
    rw[hget j (fun h=>hjO (.inl h)) (fun h=>hjO (.inr (.inl h))),gold j (by omega) (fun h=>hjO (.inr (.inr (.inl h))))]
  · intro j hj
    rw[hin]
    rcases bv.1 hj with h | h
    · exact .inl (.inl h)
    · rcases bv.1            h with h | h
      · exact .inl (.inr (.inl h))
      · rcases List.mem_append.1 h with h | h
        · rcases hO2 _ h with h | h
          · exact .inl (.inr (.inr (.inl h)))
          · exact .inr (by omega)
        · rcases List.mem_append.1 h with h | h
          · exact .inl (.inr (.inr (.inr h)))
          · have h:=List.mem_singleton.1 h
            refine .inr ?_
            rw[h,AG];omega
end
end
end Go.Proofs.YtickdehehcmfbaaGreatDoor.Am
